/- choirseat.Ops. -/
import Derived.Test.YtlkokkbikkbaoaaSt8
import Derived.Test.YtlkokkbikkbaoaaB1
set_option linter.unusedSimpArgs false
set_option linter.unusedVariables false
set_option linter.unusedSimpArgs false
set_option linter.unusedVariables false
namespace Go.Proofs.Ytlkokkbikkbaoaa
open Go.RowKit
set_option maxRecDepth 100000

/-- An owned row's block, all of it turned. -/
theorem Own.open_s {w : World} {t : TypeId} {sz n c : Nat} {A : Option Addr} {xs : List Value} (h : Own w t sz A n c xs) (hn : 0 < n) : ∃ g cur, A = some ⟨g, 0, none⟩ ∧ Blk w g t cur ∧ n * sz ≤ cur.size ∧ cur.toList.take (n * sz) = xs ∧
    ∀ w' cur', Blk w' g t cur' → cur'.size = cur.size → Own w' t sz A n c (cur'.toList.take (n * sz)) := by
  rcases h.2 with ⟨_, h0, _⟩ | ⟨g, cur, rfl, hg, hnc, hcm, hcs, htake⟩
  · omega
  · have hle : n * sz ≤ cur.size := Nat.le_trans (Nat.mul_le_mul_right _ hnc) hcs
    refine ⟨g, cur, rfl, hg, hle, htake, fun w' cur' hb hs => ⟨?_, .inr ⟨g, cur', rfl, hb, hnc, hcm, by omega, rfl⟩⟩⟩
    rw [List.length_take, Array.length_toList, hs]
    omega
theorem window {xs L : List Value} {a m : Nat} (h : (xs.drop a).take m = L) (i : Nat) (hi : i < m) : xs[a + i]? = L[i]? := by
  rw [← h, List.getElem?_take, if_pos hi, List.getElem?_drop]
theorem of_window {xs L : List Value} {a m : Nat} (hL : L.length = m) (h : ∀ i, i < m → xs[a + i]? = L[i]?) : (xs.drop a).take m = L := by
  apply List.ext_getElem?
  intro i
  rw [List.getElem?_take]
  by_cases hi : i < m
  · rw [if_pos hi, List.getElem?_drop, h i hi]
  · rw [if_neg hi, List.getElem?_eq_none (by omega)]
def ids (o : OpD) (c s : Nat) : OpD := ⟨c, s, 0, o.g, o.m, o.l⟩
theorem OpOk.ids {o : OpD} (h : OpOk o) {c s : Nat} (hc : c < 10) (hs : s ≤ 1000) : OpOk (ids o c s) := ⟨h.all, h.len, h.g, h.m, hc, hs, rfl⟩
/-- A row of calls beside a block that may turn. -/
structure OpsQ (w : World) (b y : Nat) (A : Option Addr) (c : Nat) (os : List OpD) (xs : List Value) (css : Nat → Array Value) : Prop where
  ho : Own w 38 6 A os.length c xs
  hA : ∀ g, bOf A = some g → b ≤ g
  hy : ∀ g, bOf A = some g → g ≠ y
  hx : ∀ j x, os[j]? = some x → OpHeld w (fun g => g < b ∨ some g = bOf A ∨ g = y) x (css j)
  hxs : ∀ j x, os[j]? = some x → (xs.drop (j * 6)).take 6 = (css j).toList
theorem OpsP.toQ {w w' : World} {b y : Nat} {A : Option Addr} {c : Nat} {os : List OpD} {xs : List Value} {css : Nat → Array Value} (h : OpsP w b A c os xs css) (hb : Below w.heap.size w w') (hy : w.heap.size = y) : OpsQ w' b y A c os xs css :=
  ⟨h.ho.below hb (Nat.le_refl _), h.hA, fun g hg => by have := h.ho.lt hg; omega, fun j x hj => (h.hx j x hj).next (T := fun _ => False) (Upd.of_below_size hb) (fun _ _ hf => hf.elim) (fun g hg hp => hp.elim .inl (fun hp => hp.elim .inr (fun e => by omega))), h.hxs⟩
theorem OpsQ.toP {w : World} {b y : Nat} {A : Option Addr} {c : Nat} {os : List OpD} {xs : List Value} {css : Nat → Array Value} (h : OpsQ w b y A c os xs css) : OpsP w b A c os xs css :=
  ⟨h.ho, h.hA, fun j x hj => (h.hx j x hj).next (T := fun _ => False) (Upd.refl _ w) (fun _ _ hf => hf.elim) (fun g hg hp => hp.elim .inl (fun hp => .inr (.inl hp))), h.hxs⟩
theorem OpsQ.turn {w w' : World} {b y : Nat} {A : Option Addr} {c : Nat} {os : List OpD} {xs : List Value} {css : Nat → Array Value} (h : OpsQ w b y A c os xs css) (hu : Upd (fun g => g = y) w w') : OpsQ w' b y A c os xs css :=
  ⟨h.ho.upd hu (fun g hg e => h.hy g hg e), h.hA, h.hy, fun j x hj => (h.hx j x hj).next hu (fun g _ e => .inr (.inr e)) (fun _ _ hp => hp), h.hxs⟩
structure OpRelQ (w wr : World) (y : Nat) (os : List OpD) (m : Nat) (A : Option Addr) (c : Nat) (xs : List Value) (css : Nat → Array Value) : Prop where
  P : OpsQ wr w.heap.size y A c os xs css
  hj : os.length = m
  ok : ∀ o ∈ os, OpOk o
  hb : Below w.heap.size w wr
/-- A call of the row gets its id. -/
theorem OpsQ.setId {w : World} {b y g j c1 s1 : Nat} {cur : Array Value} {o : OpD} {c : Nat} {os : List OpD} {xs : List Value} {css : Nat → Array Value} (h : OpsQ w b y (some ⟨g, 0, none⟩) c os xs css) (hcur : Blk w g 38 cur) (hj : os[j]? = some o) (hc : c1 < 4294967296) (hs : s1 < 4294967296) :
    ∃ xs' css', OpsQ (((w.setCell ⟨g, j * 6, none⟩ (.int .u32 (c1 : Int))).setCell ⟨g, j * 6 + 1, none⟩ (.int .u32 (s1 : Int))).setCell ⟨g, j * 6 + 2, none⟩ (.int .u16 0)) b y (some ⟨g, 0, none⟩) c (os.set j (ids o c1 s1)) xs' css' := by
  have hjl : j < os.length := by
    rcases Nat.lt_or_ge j os.length with h' | h'
    · exact h'
    · rw [List.getElem?_eq_none h'] at hj; cases hj
  obtain ⟨g', cur', e, hb', hle, htk, hnew⟩ := h.ho.open_s (by omega)
  cases e
  obtain rfl : cur' = cur := by
    have h1 : w.heap[g]? = some (.cells cur' 38 (0, 0)) := hb'
    have h2 : w.heap[g]? = some (.cells cur 38 (0, 0)) := hcur
    rw [h1] at h2
    injection h2 with h2
    injection h2
  obtain ⟨W3, hW3⟩ : ∃ W3, ((w.setCell ⟨g, j * 6, none⟩ (.int .u32 (c1 : Int))).setCell ⟨g, j * 6 + 1, none⟩ (.int .u32 (s1 : Int))).setCell ⟨g, j * 6 + 2, none⟩ (.int .u16 0) = W3 := ⟨_, rfl⟩
  have hU : Upd (fun x => some x = bOf (some (⟨g, 0, none⟩ : Addr))) w W3 := by
    rw [← hW3]
    exact (((Upd.refl (fun x => some x = bOf (some (⟨g, 0, none⟩ : Addr))) w).setCell (p := ⟨g, j * 6, none⟩) (fun _ => rfl) _).setCell (p := ⟨g, j * 6 + 1, none⟩) (fun _ => rfl) _).setCell (p := ⟨g, j * 6 + 2, none⟩) (fun _ => rfl) _
  have hblk : Blk W3 g 38 (((cur'.setIfInBounds (j * 6) (.int .u32 (c1 : Int))).setIfInBounds (j * 6 + 1) (.int .u32 (s1 : Int))).setIfInBounds (j * 6 + 2) (.int .u16 0)) := by
    rw [← hW3]
    exact ((hcur.set_ _ _).set_ _ _).set_ _ _
  rw [hW3]
  have hown := hnew W3 _ hblk (by simp)
  have hjs : j * 6 + 6 ≤ os.length * 6 := by omega
  generalize hxs' : (((cur'.setIfInBounds (j * 6) (.int .u32 (c1 : Int))).setIfInBounds (j * 6 + 1) (.int .u32 (s1 : Int))).setIfInBounds (j * 6 + 2) (.int .u16 0)).toList.take (os.length * 6) = xs' at hown
  have hxl : xs.length = os.length * 6 := h.ho.len
  have hget : ∀ k, k < os.length * 6 → xs'[k]? = if k = j * 6 + 2 then some (.int .u16 0) else if k = j * 6 + 1 then some (.int .u32 (s1 : Int)) else if k = j * 6 then some (.int .u32 (c1 : Int)) else xs[k]? := by
    intro k hk
    rw [← hxs', ← htk, List.getElem?_take, if_pos hk, List.getElem?_take, if_pos hk]
    simp only [Array.toList_setIfInBounds, List.getElem?_set, List.length_set, Array.length_toList]
    by_cases e2 : j * 6 + 2 = k
    · rw [if_pos e2, if_pos (by omega), if_pos (show k = j * 6 + 2 from e2.symm)]
    rw [if_neg e2, if_neg (show ¬ k = j * 6 + 2 from fun e => e2 e.symm)]
    by_cases e1 : j * 6 + 1 = k
    · rw [if_pos e1, if_pos (by omega), if_pos (show k = j * 6 + 1 from e1.symm)]
    rw [if_neg e1, if_neg (show ¬ k = j * 6 + 1 from fun e => e1 e.symm)]
    by_cases e0 : j * 6 = k
    · rw [if_pos e0, if_pos (by omega), if_pos (show k = j * 6 from e0.symm)]
    rw [if_neg e0, if_neg (show ¬ k = j * 6 from fun e => e0 e.symm)]
  have hoj := h.hx j o hj
  obtain ⟨A1, cc1, ys, cs1, hcs, -⟩ := hoj.reads
  have hxj := h.hxs j o hj
  rw [hcs] at hxj hoj
  obtain ⟨oc, os_, on, og, om, ol⟩ := o
  dsimp only at hxj hoj
  refine ⟨xs', fun k => if k = j then #[.int .u32 (c1 : Int), .int .u32 (s1 : Int), .int .u16 ((0 : Nat) : Int), .string (bstr og), .string (bstr om), .slice A1 ol.length cc1] else css k, by rw [List.length_set]; exact hown, h.hA, h.hy, fun k x hk => ?_, fun k x hk => ?_⟩
  · rw [List.getElem?_set] at hk
    by_cases hkj : j = k
    · subst hkj
      rw [if_pos rfl, if_pos hjl] at hk
      cases hk
      rw [if_pos rfl]
      exact (hoj.id hc hs (by decide)).next hU (fun g' _ e => .inr (.inl e)) (fun g' _ hp => hp)
    · rw [if_neg hkj] at hk
      rw [if_neg (fun e => hkj e.symm)]
      exact (h.hx k x hk).next hU (fun g' _ e => .inr (.inl e)) (fun g' _ hp => hp)
  · rw [List.getElem?_set] at hk
    by_cases hkj : j = k
    · subst hkj
      rw [if_pos rfl]
      refine of_window rfl (fun i hi => ?_)
      rw [hget _ (by omega)]
      have hw := fun i hi => window hxj i hi
      rcases i with _ | _ | _ | _ | _ | _ | i
      · rw [if_neg (by omega), if_neg (by omega), if_pos (by omega)]; rfl
      · rw [if_neg (by omega), if_pos (by omega)]; rfl
      · rw [if_pos (by omega)]; rfl
      · rw [if_neg (by omega), if_neg (by omega), if_neg (by omega)]; exact hw 3 (by omega)
      · rw [if_neg (by omega), if_neg (by omega), if_neg (by omega)]; exact hw 4 (by omega)
      · rw [if_neg (by omega), if_neg (by omega), if_neg (by omega)]; exact hw 5 (by omega)
      · omega
    · rw [if_neg hkj] at hk
      rw [if_neg (fun e => hkj e.symm)]
      have hkl : k < os.length := by
        rcases Nat.lt_or_ge k os.length with h' | h'
        · exact h'
        · rw [List.getElem?_eq_none h'] at hk; cases hk
      have hlen : (css k).toList.length = 6 := by
        rw [← h.hxs k x hk, List.length_take, List.length_drop, hxl]
        omega
      refine of_window hlen (fun i hi => ?_)
      rw [hget _ (by omega), if_neg (by omega), if_neg (by omega), if_neg (by omega)]
      exact window (h.hxs k x hk) i hi

/-- A request's cells. -/
structure RqD where
  G : Int
  M : Int
  K : Int
  N : Int
  F : Nat
def RqIs (q : RqD) (cs : Array Value) : Prop := cs = #[.int .u8 q.G, .int .u8 q.M, .int .u8 q.K, .int .i16 q.N, .float .f64 q.F] ∧ 0 ≤ q.G ∧ q.G ≤ 255 ∧ 0 ≤ q.M ∧ q.M ≤ 255 ∧ 0 ≤ q.K ∧ q.K ≤ 255 ∧ -32768 ≤ q.N ∧ q.N ≤ 32767 ∧ q.F < 18446744073709551616
/-- A row of requests that the machine reads. -/
structure RowRq (w : World) (B : Nat) (A : Option Addr) (l : List RqD) (xs : List Value) (css : Nat → Array Value) : Prop where
  r : Reads w B 5 A l.length xs
  hx : ∀ j q, l[j]? = some q → RqIs q (css j)
  hxs : ∀ j, j < l.length → (xs.drop (j * 5)).take 5 = (css j).toList
theorem RowRq.below {w w' : World} {B : Nat} {A : Option Addr} {l : List RqD} {xs : List Value} {css : Nat → Array Value} (h : RowRq w B A l xs css) (hb : Below B w w') : RowRq w' B A l xs css := ⟨h.r.below hb, h.hx, h.hxs⟩
theorem RowRq.cells {w : World} {B : Nat} {A : Option Addr} {l : List RqD} {xs : List Value} {css : Nat → Array Value} (h : RowRq w B A l xs css) {j : Nat} (hj : j < l.length) :
    ∃ ad q, A = some ad ∧ l[j]? = some q ∧ RqIs q (css j) ∧ ∀ W, Below B w W → W.cell? (ad.add (j * 5)) = some (.int .u8 q.G) ∧ W.cell? ⟨(ad.add (j * 5)).block, (ad.add (j * 5)).off + 1, none⟩ = some (.int .u8 q.M) ∧ W.cell? ⟨(ad.add (j * 5)).block, (ad.add (j * 5)).off + 2, none⟩ = some (.int .u8 q.K) ∧ W.cell? ⟨(ad.add (j * 5)).block, (ad.add (j * 5)).off + 3, none⟩ = some (.int .i16 q.N) ∧ W.cell? ⟨(ad.add (j * 5)).block, (ad.add (j * 5)).off + 4, none⟩ = some (.float .f64 q.F) := by
  have hq : l[j]? = some l[j] := List.getElem?_eq_getElem hj
  obtain ⟨ad, rfl, -, -⟩ := h.r.2 (by omega)
  have hx := h.hx j _ hq
  have hxs := h.hxs j hj
  rw [hx.1] at hxs
  exact ⟨ad, l[j], rfl, hq, hx, fun W hW => elem_cells (h.r.below hW) hj hxs⟩

/-- A call of the seat, pushed. -/
theorem OpS.held {w w' : World} {gg mm : ByteArray} {l : List Val} {A : Option Addr} {c : Nat} (hgg : gg.size ≤ 8) (hmm : mm.size ≤ 8) (R : ∃ xs css, VRow w' w.heap.size l A c xs css) (hall : ∀ v ∈ l, SeatV 2 1102 v) (hl : l.length ≤ 6) :
    OpHeld w' (fun g => g < w.heap.size) ⟨0, 0, 0, gg.data.toList, mm.data.toList, l⟩ #[.int .u32 ((0 : Nat) : Int), .int .u32 ((0 : Nat) : Int), .int .u16 ((0 : Nat) : Int), .string gg, .string mm, .slice A l.length c] ∧ OpOk ⟨0, 0, 0, gg.data.toList, mm.data.toList, l⟩ := by
  obtain ⟨xs, css, R⟩ := R
  have H := held_of_row (w := w) (o := ⟨0, 0, 0, gg.data.toList, mm.data.toList, l⟩) (L := l.length) R rfl (by omega) (fun v hv => (hall v hv).ok) (by show 0 < _; decide) (by show 0 < _; decide) (by show 0 < _; decide)
  dsimp only at H
  rw [bstr_data, bstr_data] at H
  exact ⟨H, hall, hl, by rw [Array.length_toList]; exact hgg, by rw [Array.length_toList]; exact hmm, by show 0 < 10; decide, by show 0 ≤ 1000; decide, rfl⟩

set_option maxHeartbeats 25600000 in
theorem ops_walk (w : World) {B c0 : Nat} {A0 : Option Addr} {l : List RqD} {xs0 : List Value} {css0 : Nat → Array Value} (h : RowRq w B A0 l xs0 css0) (hB : B ≤ w.heap.size) (hl : l.length ≤ 100) {K : Int} (k0 : 0 ≤ K) (k9 : K ≤ 255) :
    Calls Try.prog 5 #[.int .u8 K, .slice A0 l.length c0] w (OpsRes w (6 + l.length)) := by
  obtain ⟨i0, hi, hz0, hz1, hz2⟩ := info_parts info_op
  have hmd := made_walk w k0 k9
  obtain ⟨N, hN⟩ : ∃ N, l.length = N := ⟨_, rfl⟩
  rw [hN] at hl ⊢
  replace hN := Lib.hid hN
  replace h := Lib.hid h
  replace hmd := Lib.hid hmd
  go_enter Try.func5, Try.ntmps5
  go_wp2_with fail
  refine hmd.out.mono ?_
  rintro e w1 ⟨os0, A1, c1, xs1, css1, rfl, hl0, hok0, P0, hb1⟩
  try dsimp only
  go_wp2_with fail
  go_loopw [5, 6] (fun s5 s6 wr => ∃ (os : List OpD) (j m : Nat) (A1 : Option Addr) (c1 : Nat) (xs1 : List Value) (css1 : Nat → Array Value), s5 = .slice A1 m c1 ∧ s6 = .int .i64 (j : Int) ∧ j ≤ N ∧ m = 6 + j ∧ OpRel w wr os m A1 c1 xs1 css1) (fun _ i _ => N - (intOf i).toNat)
  case atStart => exact ⟨os0, 0, 6, A1, c1, xs1, css1, rfl, rfl, Nat.zero_le _, rfl, P0, hl0, hok0, hb1⟩
  case round =>
    obtain ⟨os, j, m, A1, c1, xs1, css1, rfl, rfl, hj, hm, R⟩ := hrel
    replace hm := Lib.hid hm
    have hm2 : m ≤ 106 := by have := hm.out; omega
    have hnw : IntKind.i64.wrap ((j : Int) + 1) = ((j + 1 : Nat) : Int) := by rw [IntKind.wrap_i64]; omega
    have hbr := R.hb
    by_cases hlt : j < N
    · have d2 : decide ((j : Int) < (N : Int)) = true := decide_eq_true (by omega)
      obtain ⟨ad, q, rfl, -, hqi, hqc⟩ := h.out.cells (j := j) (by rw [hN.out]; exact hlt)
      obtain ⟨-, q1, q2, q3, q4, q5, q6, q7, q8, q9⟩ := hqi
      obtain ⟨qG, qM, qK, qN, qF⟩ := q
      dsimp only at q1 q2 q3 q4 q5 q6 q7 q8 q9 hqc
      have hqw := hqc wr (hbr.mono hB)
      have hown := R.P.ho
      rw [R.hj] at hown
      replace R := Lib.hid R
      replace hown := Lib.hid hown
      clear hqc
      have hop := seat_op_walk (F := qF) wr q1 q2 q3 q4 q5 q6 q7 q8 q9
      replace hop := Lib.hid hop
      go_wp2_with fail
      clear hqw
      refine hop.out.mono ?_
      rintro e w6 ⟨gg, mm, ol, A6, c6, rfl, hgg, hmm, R6, hall, hl6, hb6⟩
      try dsimp only
      obtain ⟨H6, hok6⟩ := OpS.held hgg hmm R6 hall hl6
      obtain ⟨L, hL⟩ : ∃ L, ol.length = L := ⟨_, rfl⟩
      rw [hL] at H6 ⊢
      have hsrc := Reads.lit (size := 6) w6 #[.int .u32 0, .int .u32 0, .int .u16 0, .string gg, .string mm, .slice A6 L c6] 38 (0, 0) 1 [.int .u32 0, .int .u32 0, .int .u16 0, .string gg, .string mm, .slice A6 L c6] rfl rfl
      have hb7 := hb6.alloc hb6.size (.cells #[.int .u32 0, .int .u32 0, .int .u16 0, .string gg, .string mm, .slice A6 L c6] 38)
      have H7 : OpHeld (w6.alloc (.cells #[.int .u32 0, .int .u32 0, .int .u16 0, .string gg, .string mm, .slice A6 L c6] 38)) (fun g => g < wr.heap.size) ⟨0, 0, 0, gg.data.toList, mm.data.toList, ol⟩ #[.int .u32 0, .int .u32 0, .int .u16 0, .string gg, .string mm, .slice A6 L c6] := OpHeld.next H6 (T := fun _ => False) ((Upd.refl _ w6).alloc _) (fun _ _ hf => hf.elim) (fun g _ hg => hg)
      have ho7 := hown.out.below hb7 (Nat.le_refl _)
      replace H7 := Lib.hid H7
      replace hL := Lib.hid hL
      clear H6 R6
      go_wp2_with (at_builtin; go_must (refine wpList_append_mine rfl _ _ 24 24 rfl 38 i0 _ 6 72 Try.underlying24 hi hz0 hz1 hz2 rfl rfl ho7 rfl (Src.ofReads Try.underlying24 _ hsrc (by intro u hu; simp only [List.mem_cons, List.not_mem_nil, or_false] at hu; rcases hu with rfl | rfl | rfl | rfl | rfl | rfl <;> rfl)) (by unfold maxLen; omega) (by omega) (fun A10 c10 w10 ho10 hg10 hat10 => ?_)))
      have P10 := R.out.P.push hbr.size hb7 (by rw [R.out.hj]; exact ho10) hg10 hat10 H7.out
      have hbn := (below_then hb7 hbr).grown hg10 (Nat.le_trans hbr.size hb7.size) (fun g hg => R.out.P.hA g hg)
      exact ⟨⟨_, j + 1, m + 1, A10, c10, _, _, by simp, by simp [hnw], by omega, by have := hm.out; omega, P10, by simp [R.out.hj], fun o ho => by
        rcases List.mem_append.1 ho with h | h
        · exact R.out.ok o h
        · cases List.mem_singleton.1 h; exact hok6, hbn⟩, by simp [intOf]; omega⟩
    · have hjN : j = N := by omega
      have d2 : decide ((j : Int) < (N : Int)) = false := decide_eq_false (by omega)
      have d2' : decide (j < N) = false := decide_eq_false hlt
      have hmN : m = 6 + N := by rw [hm.out, hjN]
      replace hjN := Lib.hid hjN
      have P := R.P
      have hjj := R.hj
      have hok := R.ok
      have hg3 := Blk.new wr 55 #[.int .u32 0, .int .u32 0]
      have hb3 := hbr.alloc hbr.size (.cells #[.int .u32 0, .int .u32 0] 55)
      obtain ⟨y, hy⟩ : ∃ y, wr.heap.size = y := ⟨_, rfl⟩
      have hwy : w.heap.size ≤ y := by rw [← hy]; exact hbr.size
      have P3 := P.toQ ((Below.refl wr.heap.size wr).alloc (Nat.le_refl _) (.cells #[.int .u32 0, .int .u32 0] 55)) hy
      rw [hy] at hg3
      clear P R
      replace hm := Lib.hid hmN
      clear hmN
      go_wp2_with fail
      generalize wr.alloc (.cells #[.int .u32 0, .int .u32 0] 55) = w3 at *
      try rw [hy]
      replace hy := Lib.hid hy
      go_loopw [8] (fun s8 wr => ∃ (os : List OpD) (i a b : Nat) (xs1 : List Value) (css1 : Nat → Array Value), s8 = .int .i64 (i : Int) ∧ i ≤ m ∧ a ≤ i ∧ b ≤ i ∧ Blk wr y 55 #[.int .u32 (a : Int), .int .u32 (b : Int)] ∧ OpRelQ w wr y os m A1 c1 xs1 css1) (fun i _ => m - (intOf i).toNat)
      case atStart => exact ⟨os, 0, 0, 0, xs1, css1, rfl, Nat.zero_le _, Nat.le_refl _, Nat.le_refl _, hg3, P3, hjj, hok, hb3⟩
      case round =>
        obtain ⟨os, i, a, b, xs1, css1, rfl, hi9, hai, hbi, hgr, R⟩ := hrel
        have hiw : IntKind.i64.wrap ((i : Int) + 1) = ((i + 1 : Nat) : Int) := by rw [IntKind.wrap_i64]; omega
        by_cases hit : i < m
        · have d3 : decide ((i : Int) < (m : Int)) = true := decide_eq_true (by omega)
          have hio : i < os.length := by rw [R.hj]; exact hit
          have hxo : os[i]? = some os[i] := List.getElem?_eq_getElem _
          have hoo := R.ok os[i] (List.getElem_mem hio)
          generalize os[i] = o at hxo hoo
          obtain ⟨g, cur, eA, hcur, hle, -, -⟩ := R.P.ho.open_s (by omega)
          subst eA
          have hgy : g ≠ y := R.P.hy g rfl
          rw [R.hj] at hle
          have hpar : i % 2 = 0 ∨ i % 2 = 1 := by omega
          rcases hpar with hpar | hpar
          · skip
            have t2 : (i : Int).tmod 2 = 0 := by rw [Int.tmod_eq_emod_of_nonneg (by omega)]; omega
            have hg0 : wr.cell? ⟨y, 0, none⟩ = some (.int .u32 (a : Int)) := hgr.cell 0
            have hg1 : wr.cell? ⟨y, 1, none⟩ = some (.int .u32 (b : Int)) := hgr.cell 1
            have hf0 := hgr.frozen 0
            have wA : IntKind.u32.wrap ((a : Int) + 1) = (a : Int) + 1 := by unfold IntKind.wrap; simp [IntKind.bits, IntKind.signed]; omega
            have hg5 : Blk (wr.setCell ⟨y, 0, none⟩ (.int .u32 ((a : Int) + 1))) y 55 #[.int .u32 ((a : Int) + 1), .int .u32 (b : Int)] := hgr.set_ 0 (.int .u32 ((a : Int) + 1))
            have hcur5 := hcur.far (p := ⟨y, 0, none⟩) hgy (.int .u32 ((a : Int) + 1))
            have hu5 : Upd (fun g => g = y) wr (wr.setCell ⟨y, 0, none⟩ (.int .u32 ((a : Int) + 1))) := (Upd.refl (fun g => g = y) wr).setCell (p := ⟨y, 0, none⟩) (fun _ => rfl) _
            have P5 := R.P.turn hu5
            have hb5 := R.hb.setCell (p := ⟨y, 0, none⟩) hwy (.int .u32 ((a : Int) + 1))
            go_upto_region 12 with (fail)
            generalize wr.setCell ⟨y, 0, none⟩ (.int .u32 ((a : Int) + 1)) = w5 at *
            clear hg0 hg1 hf0 hu5
            have hcur := hcur5
            obtain ⟨oc, os0', on, og, om, ol⟩ := o
            obtain ⟨A9, cc9, ys9, cs9, hcs9, -⟩ := (P5.hx i _ hxo).reads
            have hx6 := P5.hxs i _ hxo
            rw [hcs9] at hx6
            have hxl : xs1.length = m * 6 := by have := P5.ho.len; rw [R.hj] at this; exact this
            obtain ⟨g', cur', eA, hcur', hle', htk', -⟩ := P5.ho.open_s (by omega)
            cases eA
            obtain rfl : cur' = cur := by
              have h1 : w5.heap[g]? = some (.cells cur' 38 (0, 0)) := hcur'
              have h2 : w5.heap[g]? = some (.cells cur 38 (0, 0)) := hcur
              rw [h1] at h2
              injection h2 with h2
              injection h2
            rw [R.hj] at htk' hle'
            have hcl : ∀ t v, t < 6 → ([Value.int .u32 (oc : Int), .int .u32 (os0' : Int), .int .u16 (on : Int), .string (bstr og), .string (bstr om), .slice A9 ol.length cc9] : List Value)[t]? = some v → w5.cell? ⟨g, i * 6 + t, none⟩ = some v := fun t v ht hv => by
              rw [hcur'.cell]
              have h1 := window hx6 t ht
              rw [← htk', List.getElem?_take, if_pos (by omega)] at h1
              have h3 : cur'[i * 6 + t]? = cur'.toList[i * 6 + t]? := by simp
              rw [h3, h1]
              exact hv
            have hc0 : w5.cell? ⟨g, i * 6, none⟩ = some (.int .u32 (oc : Int)) := hcl 0 _ (by decide) rfl
            have hc1 : w5.cell? ⟨g, i * 6 + 1, none⟩ = some (.int .u32 (os0' : Int)) := hcl 1 _ (by decide) rfl
            have hc2 : w5.cell? ⟨g, i * 6 + 2, none⟩ = some (.int .u16 (on : Int)) := hcl 2 _ (by decide) rfl
            have hfr0 := hcur'.frozen (i * 6)
            have hfr1 := hcur'.frozen (i * 6 + 1)
            have hfr2 := hcur'.frozen (i * 6 + 2)
            have hgc : w5.cell? ⟨y, 0, none⟩ = some (.int .u32 ((a : Int) + 1)) := hg5.cell 0
            obtain ⟨xs9, css9, P9⟩ := P5.setId (c1 := 0) (s1 := a + 1) hcur' hxo (by decide) (by omega)
            have hu9 : Upd (fun x => x = g) w5 (((w5.setCell ⟨g, i * 6, none⟩ (.int .u32 ((0 : Nat) : Int))).setCell ⟨g, i * 6 + 1, none⟩ (.int .u32 ((a + 1 : Nat) : Int))).setCell ⟨g, i * 6 + 2, none⟩ (.int .u16 0)) := (((Upd.refl (fun x => x = g) w5).setCell (p := ⟨g, i * 6, none⟩) (fun _ => rfl) _).setCell (p := ⟨g, i * 6 + 1, none⟩) (fun _ => rfl) _).setCell (p := ⟨g, i * 6 + 2, none⟩) (fun _ => rfl) _
            have hg9 := hg5.upd hu9 (fun e => hgy e.symm)
            have hgw := R.P.hA g rfl
            have hb9 := ((hb5.setCell (p := ⟨g, i * 6, none⟩) hgw (.int .u32 ((0 : Nat) : Int))).setCell (p := ⟨g, i * 6 + 1, none⟩) hgw (.int .u32 ((a + 1 : Nat) : Int))).setCell (p := ⟨g, i * 6 + 2, none⟩) hgw (.int .u16 0)
            have hok9 : ∀ x ∈ os.set i (ids ⟨oc, os0', on, og, om, ol⟩ 0 (a + 1)), OpOk x := fun x hx => by
              rcases List.mem_or_eq_of_mem_set hx with h | h
              · exact R.ok x h
              · rw [h]; exact hoo.ids (by decide) (by omega)
            have hj9 := R.hj
            replace P9 := Lib.hid P9
            replace hg9 := Lib.hid hg9
            replace hb9 := Lib.hid hb9
            clear hu9 hcl htk' hx6 hcs9 P5 hb5 hcur hcur5 hg5 R
            go_wp2_with fail
            exact ⟨⟨os.set i (ids ⟨oc, os0', on, og, om, ol⟩ 0 (a + 1)), i + 1, a + 1, b, xs9, css9, by simp [hiw], by omega, by omega, by omega, hg9.out, P9.out, by rw [List.length_set]; exact hj9, hok9, hb9.out⟩, by simp [intOf]; omega⟩

          · skip
            have t2 : (i : Int).tmod 2 = 1 := by rw [Int.tmod_eq_emod_of_nonneg (by omega)]; omega
            have hg0 : wr.cell? ⟨y, 0, none⟩ = some (.int .u32 (a : Int)) := hgr.cell 0
            have hg1 : wr.cell? ⟨y, 1, none⟩ = some (.int .u32 (b : Int)) := hgr.cell 1
            have hf0 := hgr.frozen 1
            have wA : IntKind.u32.wrap ((b : Int) + 1) = (b : Int) + 1 := by unfold IntKind.wrap; simp [IntKind.bits, IntKind.signed]; omega
            have hg5 : Blk (wr.setCell ⟨y, 1, none⟩ (.int .u32 ((b : Int) + 1))) y 55 #[.int .u32 (a : Int), .int .u32 ((b : Int) + 1)] := hgr.set_ 1 (.int .u32 ((b : Int) + 1))
            have hcur5 := hcur.far (p := ⟨y, 1, none⟩) hgy (.int .u32 ((b : Int) + 1))
            have hu5 : Upd (fun g => g = y) wr (wr.setCell ⟨y, 1, none⟩ (.int .u32 ((b : Int) + 1))) := (Upd.refl (fun g => g = y) wr).setCell (p := ⟨y, 1, none⟩) (fun _ => rfl) _
            have P5 := R.P.turn hu5
            have hb5 := R.hb.setCell (p := ⟨y, 1, none⟩) hwy (.int .u32 ((b : Int) + 1))
            go_upto_region 12 with (fail)
            generalize wr.setCell ⟨y, 1, none⟩ (.int .u32 ((b : Int) + 1)) = w5 at *
            clear hg0 hg1 hf0 hu5
            have hcur := hcur5
            obtain ⟨oc, os0', on, og, om, ol⟩ := o
            obtain ⟨A9, cc9, ys9, cs9, hcs9, -⟩ := (P5.hx i _ hxo).reads
            have hx6 := P5.hxs i _ hxo
            rw [hcs9] at hx6
            have hxl : xs1.length = m * 6 := by have := P5.ho.len; rw [R.hj] at this; exact this
            obtain ⟨g', cur', eA, hcur', hle', htk', -⟩ := P5.ho.open_s (by omega)
            cases eA
            obtain rfl : cur' = cur := by
              have h1 : w5.heap[g]? = some (.cells cur' 38 (0, 0)) := hcur'
              have h2 : w5.heap[g]? = some (.cells cur 38 (0, 0)) := hcur
              rw [h1] at h2
              injection h2 with h2
              injection h2
            rw [R.hj] at htk' hle'
            have hcl : ∀ t v, t < 6 → ([Value.int .u32 (oc : Int), .int .u32 (os0' : Int), .int .u16 (on : Int), .string (bstr og), .string (bstr om), .slice A9 ol.length cc9] : List Value)[t]? = some v → w5.cell? ⟨g, i * 6 + t, none⟩ = some v := fun t v ht hv => by
              rw [hcur'.cell]
              have h1 := window hx6 t ht
              rw [← htk', List.getElem?_take, if_pos (by omega)] at h1
              have h3 : cur'[i * 6 + t]? = cur'.toList[i * 6 + t]? := by simp
              rw [h3, h1]
              exact hv
            have hc0 : w5.cell? ⟨g, i * 6, none⟩ = some (.int .u32 (oc : Int)) := hcl 0 _ (by decide) rfl
            have hc1 : w5.cell? ⟨g, i * 6 + 1, none⟩ = some (.int .u32 (os0' : Int)) := hcl 1 _ (by decide) rfl
            have hc2 : w5.cell? ⟨g, i * 6 + 2, none⟩ = some (.int .u16 (on : Int)) := hcl 2 _ (by decide) rfl
            have hfr0 := hcur'.frozen (i * 6)
            have hfr1 := hcur'.frozen (i * 6 + 1)
            have hfr2 := hcur'.frozen (i * 6 + 2)
            have hgc : w5.cell? ⟨y, 1, none⟩ = some (.int .u32 ((b : Int) + 1)) := hg5.cell 1
            obtain ⟨xs9, css9, P9⟩ := P5.setId (c1 := 1) (s1 := b + 1) hcur' hxo (by decide) (by omega)
            have hu9 : Upd (fun x => x = g) w5 (((w5.setCell ⟨g, i * 6, none⟩ (.int .u32 ((1 : Nat) : Int))).setCell ⟨g, i * 6 + 1, none⟩ (.int .u32 ((b + 1 : Nat) : Int))).setCell ⟨g, i * 6 + 2, none⟩ (.int .u16 0)) := (((Upd.refl (fun x => x = g) w5).setCell (p := ⟨g, i * 6, none⟩) (fun _ => rfl) _).setCell (p := ⟨g, i * 6 + 1, none⟩) (fun _ => rfl) _).setCell (p := ⟨g, i * 6 + 2, none⟩) (fun _ => rfl) _
            have hg9 := hg5.upd hu9 (fun e => hgy e.symm)
            have hgw := R.P.hA g rfl
            have hb9 := ((hb5.setCell (p := ⟨g, i * 6, none⟩) hgw (.int .u32 ((1 : Nat) : Int))).setCell (p := ⟨g, i * 6 + 1, none⟩) hgw (.int .u32 ((b + 1 : Nat) : Int))).setCell (p := ⟨g, i * 6 + 2, none⟩) hgw (.int .u16 0)
            have hok9 : ∀ x ∈ os.set i (ids ⟨oc, os0', on, og, om, ol⟩ 1 (b + 1)), OpOk x := fun x hx => by
              rcases List.mem_or_eq_of_mem_set hx with h | h
              · exact R.ok x h
              · rw [h]; exact hoo.ids (by decide) (by omega)
            have hj9 := R.hj
            replace P9 := Lib.hid P9
            replace hg9 := Lib.hid hg9
            replace hb9 := Lib.hid hb9
            clear hu9 hcl htk' hx6 hcs9 P5 hb5 hcur hcur5 hg5 R
            go_wp2_with fail
            exact ⟨⟨os.set i (ids ⟨oc, os0', on, og, om, ol⟩ 1 (b + 1)), i + 1, a, b + 1, xs9, css9, by simp [hiw], by omega, by omega, by omega, hg9.out, P9.out, by rw [List.length_set]; exact hj9, hok9, hb9.out⟩, by simp [intOf]; omega⟩

        · have him : i = m := by omega
          have d3 : decide ((i : Int) < (m : Int)) = false := decide_eq_false (by omega)
          have d3' : decide (i < m) = false := decide_eq_false hit
          have P := R.P.toP
          have hjr := R.hj
          have hor := R.ok
          have hbe := R.hb
          replace him := Lib.hid him
          clear R
          replace P := Lib.hid P
          go_wp2_with fail
          go_ret
          exact ⟨os, A1, c1, xs1, css1, by rw [← hm.out]; rfl, by rw [hjr, hm.out], hor, P.out, hbe⟩
end Go.Proofs.Ytlkokkbikkbaoaa
