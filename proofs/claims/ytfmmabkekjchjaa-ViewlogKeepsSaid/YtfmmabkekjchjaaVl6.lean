/- viewlog.Choose. -/
import Derived.Test.YtfmmabkekjchjaaVl5
set_option linter.unusedSimpArgs false
set_option linter.unusedVariables false
namespace Go.Proofs.Ytfmmabkekjchjaa
open Go.RowKit
set_option maxRecDepth 100000

theorem info_int : (Try.prog.info? 3).map (fun i => (i.zero, i.size, i.bytes)) = some (some (.int .i64 0), 1, 8) := by kernel_rfl
theorem results_ct {P : Program} {fn : Func} {p u : Tmp} {ty : TypeId} (h : fn.results = #[.cell p ty, .tmp u]) (tmps : Array Value) (w : World) (g : Nat) (t : TypeId) (cs : Array Value) (fr : Nat × Nat) (d : TypeDesc) (v : Value)
    (hp : tmps.getD p undef = .pointer (some ⟨g, 0, none⟩)) (hv : tmps.getD u undef = v) (hg : w.heap[g]? = some (.cells cs t fr))
    (hu : P.underlying ty = some d) (hd : (match d with | .struct _ | .array _ _ => true | _ => false) = true) (hi : (P.info? ty).map (·.size) = some cs.size) :
    (results fn tmps).run P w = .ok (.tuple #[.agg cs, v]) w := by
  have hp' : tmps[p]?.getD undef = .pointer (some ⟨g, 0, none⟩) := by simpa using hp
  have hv' : tmps[u]?.getD undef = v := by simpa using hv
  simp [results, h, hp', hv', asAddr, run_loadVar_row w g t ty cs fr d hg hu hd hi]

/-- A report. -/
structure RpD where
  f : Int
  v : Nat
  s : Int
  l : List (Nat × OpD)
def zeroR : RpD := ⟨0, 0, 0, []⟩
def betterR (a b : RpD) : Bool := betterB a.v b.v a.l.length b.l.length a.f b.f
/-- The reports as they are gone through: the best, who told, how much is sure. -/
def stepC (K : Int) (st : RpD × List Int × Int) (r : RpD) : RpD × List Int × Int :=
  if r.f < 0 ∨ K ≤ r.f ∨ r.f ∈ st.2.1 then st else (if st.2.1 = [] ∨ betterR r st.1 = true then r else st.1, st.2.1 ++ [r.f], if st.2.2 < r.s then r.s else st.2.2)
def chooseS (n : Int) (rs : List RpD) : RpD × List Int × Int := rs.foldl (stepC (clampI n)) (zeroR, [], 0)
def chOk (n : Int) (rs : List RpD) : Bool := hasB n (chooseS n rs).2.1.length
def chSure (n : Int) (rs : List RpD) : Int := if ((chooseS n rs).1.l.length : Int) < (chooseS n rs).2.2 then ((chooseS n rs).1.l.length : Int) else (chooseS n rs).2.2
theorem clampI_idem (n : Int) : clampI (clampI n) = clampI n := by unfold clampI; split <;> (try split) <;> (try split) <;> (try split) <;> omega
theorem hasB_clamp (n : Int) (k : Nat) : hasB (clampI n) k = hasB n k := by unfold hasB; rw [clampI_idem]
def goodC (K : Int) (st : RpD × List Int × Int) : Prop := st.2.1.Nodup ∧ ∀ x ∈ st.2.1, 0 ≤ x ∧ x < K
theorem goodC_step {K : Int} {st : RpD × List Int × Int} {r : RpD} (h : goodC K st) : goodC K (stepC K st r) := by
  unfold stepC
  split
  · exact h
  · rename_i hn
    have hm : r.f ∉ st.2.1 := fun e => hn (.inr (.inr e))
    refine ⟨?_, fun x hx => ?_⟩
    · dsimp only
      rw [List.nodup_append]
      exact ⟨h.1, by simp, fun a ha b hb e => by simp at hb; subst hb; subst e; exact hm ha⟩
    · dsimp only at hx
      rw [List.mem_append, List.mem_singleton] at hx
      rcases hx with hx | rfl
      · exact h.2 x hx
      · exact ⟨by omega, by omega⟩
theorem goodC_fold (K : Int) : ∀ (rs : List RpD) (st : RpD × List Int × Int), goodC K st → goodC K (rs.foldl (stepC K) st)
  | [], _, h => h
  | r :: rs, st, h => goodC_fold K rs _ (goodC_step h)
theorem who_len (K : Int) : ∀ (rs : List RpD) (st : RpD × List Int × Int), (rs.foldl (stepC K) st).2.1.length ≤ st.2.1.length + rs.length
  | [], _ => by simp
  | r :: rs, st => by
    have h := who_len K rs (stepC K st r)
    have h2 : (stepC K st r).2.1.length ≤ st.2.1.length + 1 := by unfold stepC; split <;> simp
    rw [List.foldl_cons, List.length_cons]
    omega
theorem fold_take {K : Int} {rs : List RpD} {j : Nat} {x : RpD} (hx : rs[j]? = some x) (s0 : RpD × List Int × Int) : (rs.take (j + 1)).foldl (stepC K) s0 = stepC K ((rs.take j).foldl (stepC K) s0) x := by
  have hj : j < rs.length := by
    rcases Nat.lt_or_ge j rs.length with h | h
    · exact h
    · rw [List.getElem?_eq_none h] at hx; cases hx
  rw [List.take_succ_eq_append_getElem hj, List.foldl_append]
  rw [List.getElem?_eq_getElem hj] at hx
  injection hx with hx
  rw [hx]
  rfl

/-- A row of reports that the machine reads; where their logs lie. -/
structure RpsR (w : World) (B : Nat) (A : Option Addr) (rs : List RpD) (xs : List Value) (LA : Nat → Option Addr) (LC : Nat → Nat) : Prop where
  r : Reads w B 4 A rs.length xs
  hx : ∀ j x, rs[j]? = some x → ∃ ys cst, LogR w B (LA j) (LC j) x.l ys cst
  hxs : ∀ j x, rs[j]? = some x → (xs.drop (j * 4)).take 4 = [Value.int .i64 x.f, .int .u64 (x.v : Int), .slice (LA j) x.l.length (LC j), .int .i64 x.s]
  hl : ∀ x ∈ rs, x.l.length ≤ 1000
theorem RpsR.below {w w' : World} {B : Nat} {A : Option Addr} {rs : List RpD} {xs : List Value} {LA : Nat → Option Addr} {LC : Nat → Nat} (h : RpsR w B A rs xs LA LC) (hb : Below B w w') : RpsR w' B A rs xs LA LC :=
  ⟨h.r.below hb, fun j x hj => by obtain ⟨ys, cst, hL⟩ := h.hx j x hj; exact ⟨ys, cst, hL.below hb⟩, h.hxs, h.hl⟩
theorem RpsR.up {w : World} {B B' : Nat} {A : Option Addr} {rs : List RpD} {xs : List Value} {LA : Nat → Option Addr} {LC : Nat → Nat} (h : RpsR w B A rs xs LA LC) (hB : B ≤ B') : RpsR w B' A rs xs LA LC :=
  ⟨h.r.more hB, fun j x hj => by obtain ⟨ys, cst, hL⟩ := h.hx j x hj; exact ⟨ys, cst, hL.up hB⟩, h.hxs, h.hl⟩
/-- The cells of a report as a walk finds them. -/
theorem RpsR.cells {w : World} {B : Nat} {A : Option Addr} {rs : List RpD} {xs : List Value} {LA : Nat → Option Addr} {LC : Nat → Nat} (h : RpsR w B A rs xs LA LC) {j : Nat} {x : RpD} (hj : rs[j]? = some x) :
    ∃ ad, A = some ad ∧ ad.block < B ∧ ∀ W, Below B w W → W.cell? (ad.add (j * 4)) = some (.int .i64 x.f) ∧ W.cell? ⟨(ad.add (j * 4)).block, (ad.add (j * 4)).off + 1, none⟩ = some (.int .u64 (x.v : Int)) ∧ W.cell? ⟨(ad.add (j * 4)).block, (ad.add (j * 4)).off + 2, none⟩ = some (.slice (LA j) x.l.length (LC j)) ∧ W.cell? ⟨(ad.add (j * 4)).block, (ad.add (j * 4)).off + 3, none⟩ = some (.int .i64 x.s) := by
  have hjl : j < rs.length := by
    rcases Nat.lt_or_ge j rs.length with h' | h'
    · exact h'
    · rw [List.getElem?_eq_none h'] at hj; cases hj
  obtain ⟨ad, rfl, hb, -⟩ := h.r.2 (by omega)
  refine ⟨ad, rfl, hb, fun W hW => ?_⟩
  obtain ⟨ad', e, -, hc⟩ := (h.r.below hW).2 (by omega)
  cases e
  have hget : ∀ i u, [Value.int .i64 x.f, .int .u64 (x.v : Int), .slice (LA j) x.l.length (LC j), .int .i64 x.s][i]? = some u → W.cell? (ad.add (j * 4 + i)) = some u := fun i u hi => by
    refine hc _ u ?_
    rw [← h.hxs j x hj, List.getElem?_take] at hi
    split at hi
    · rw [List.getElem?_drop] at hi; exact hi
    · cases hi
  have e := fun k => add_pos ad (j * 4) k
  exact ⟨hget 0 _ rfl, by rw [← e 0]; exact hget 1 _ rfl, by rw [← e 1]; exact hget 2 _ rfl, by rw [← e 2]; exact hget 3 _ rfl⟩

structure ChRel (w wr : World) (B : Nat) (K : Int) (rs : List RpD) (j : Nat) (bf bs_ : Int) (bv bn : Nat) (bl : List (Nat × OpD)) (who : List Int) (L : Nat) (su : Int) (Ab : Option Addr) (cb' : Nat) (A7 : Option Addr) (c7 : Nat) : Prop where
  st : (rs.take j).foldl (stepC K) (zeroR, [], 0) = (⟨bf, bv, bs_, bl⟩, who, su)
  hn : bl.length = bn
  hL : who.length = L
  b : Blk wr (w.heap.size + 1) 31 #[.int .i64 bf, .int .u64 (bv : Int), .slice Ab bn cb', .int .i64 bs_]
  z : Blk wr w.heap.size 31 #[.int .i64 0, .int .u64 0, .slice none 0 0, .int .i64 0]
  lg : ∃ ys cst, LogR w B Ab cb' bl ys cst
  own : Own wr 3 1 A7 L c7 (ints who)
  hA : ∀ g, bOf A7 = some g → w.heap.size + 2 ≤ g
  hb : Below w.heap.size w wr
  b1 : bn ≤ 1000
/-- A report passed over. -/
theorem ChRel.skip {w wr w' : World} {B : Nat} {K : Int} {rs : List RpD} {j : Nat} {bf bs_ : Int} {bv bn : Nat} {bl : List (Nat × OpD)} {who : List Int} {L : Nat} {su : Int} {Ab : Option Addr} {cb' : Nat} {A7 : Option Addr} {c7 : Nat} {x : RpD} (R : ChRel w wr B K rs j bf bs_ bv bn bl who L su Ab cb' A7 c7)
    (hx : rs[j]? = some x) (h : x.f < 0 ∨ K ≤ x.f ∨ x.f ∈ who) (hb : Below wr.heap.size wr w') : ChRel w w' B K rs (j + 1) bf bs_ bv bn bl who L su Ab cb' A7 c7 := by
  have hs := R.hb.size
  refine ⟨?_, R.hn, R.hL, R.b.below hb R.b.lt, R.z.below hb R.z.lt, R.lg, R.own.below hb (Nat.le_refl _), R.hA, below_then hb R.hb, R.b1⟩
  rw [fold_take hx, R.st]
  unfold stepC
  rw [if_pos h]

/-- A report taken. -/
theorem ChRel.take {w wr : World} {B : Nat} {K : Int} {rs : List RpD} {j : Nat} {bf bs_ : Int} {bv bn : Nat} {bl : List (Nat × OpD)} {who : List Int} {L : Nat} {su : Int} {Ab : Option Addr} {cb' : Nat} {A7 : Option Addr} {c7 : Nat} {x y : RpD} {su' : Int} (R : ChRel w wr B K rs j bf bs_ bv bn bl who L su Ab cb' A7 c7)
    (hx : rs[j]? = some x) (h0 : ¬ x.f < 0) (hK : ¬ K ≤ x.f) (hm : x.f ∉ who) (hy : (if who = [] ∨ betterR x ⟨bf, bv, bs_, bl⟩ = true then x else ⟨bf, bv, bs_, bl⟩) = y) (hsu : (if su < x.s then x.s else su) = su') :
    (rs.take (j + 1)).foldl (stepC K) (zeroR, [], 0) = (y, who ++ [x.f], su') := by
  rw [fold_take hx, R.st]
  unfold stepC
  rw [if_neg (by rintro (h | h | h); exact h0 h; exact hK h; exact hm h)]
  dsimp only
  rw [hy, hsu]
theorem ints_snoc (l : List Int) (x : Int) : ints (l ++ [x]) = ints l ++ [.int .i64 x] := by simp [ints]

theorem LogP.upd {w w' : World} {b b' c : Nat} {S : Nat → Prop} {A : Option Addr} {l : List (Nat × OpD)} {xs : List Value} {css : Nat → Array Value} (h : LogP w b A c l xs css) (hu : Upd S w w') (hS : ∀ g, S g → g < b) (hb : b' ≤ b) : LogP w' b' A c l xs css :=
  ⟨h.ho.upd hu (fun g hg hs => by have h1 := h.hA g hg; have h2 := hS g hs; omega), fun g hg => Nat.le_trans hb (h.hA g hg), fun j x hj => (h.hx j x hj).next hu (fun g _ hs => .inl (hS g hs)) (fun g _ hp => hp.imp (fun h => Nat.lt_of_lt_of_le h hb) id), h.hxs, h.hv, h.one⟩

/-- What viewlog.Choose tells. -/
def ChVl (w : World) (n : Int) (rs : List RpD) (e : Ending) (w' : World) : Prop :=
  Below w.heap.size w w' ∧ ((chOk n rs = false ∧ e = .returned (.tuple #[.agg #[.int .i64 0, .int .u64 0, .slice none 0 0, .int .i64 0], .bool false])) ∨
    (chOk n rs = true ∧ ∃ A c xs css, e = .returned (.tuple #[.agg #[.int .i64 (chooseS n rs).1.f, .int .u64 ((chooseS n rs).1.v : Int), .slice A (chooseS n rs).1.l.length c, .int .i64 (chSure n rs)], .bool true]) ∧ LogP w' w.heap.size A c (cleanLog (chooseS n rs).1.l) xs css))

set_option maxHeartbeats 12800000 in
theorem vl_choose {w : World} {B c : Nat} {A : Option Addr} {rs : List RpD} {xs : List Value} {LA : Nat → Option Addr} {LC : Nat → Nat} {n : Int} (h : RpsR w B A rs xs LA LC) (hB : B ≤ w.heap.size) (hl : rs.length ≤ 1000) :
    Calls Try.prog 13 #[.int .i64 n, .slice A rs.length c] w (ChVl w n rs) := by
  obtain ⟨i0, hi, hz0, hz1, hz2⟩ := info_parts info_int
  have hrng := clampI_rng n
  obtain ⟨K, hK⟩ : ∃ K, clampI n = K := ⟨_, rfl⟩
  rw [hK] at hrng
  obtain ⟨N, hN⟩ : ∃ N, rs.length = N := ⟨_, rfl⟩
  rw [hN] at hl ⊢
  have hk7 : ∀ m : Int, (if n < 1 then 1 else n) = m → (if 7 < m then 7 else m) = K := by
    intro m hm
    rw [← hK, ← hm]
    unfold clampI
    split <;> (try split) <;> (try split) <;> omega
  obtain ⟨m, hm⟩ : ∃ m : Int, (if n < 1 then 1 else n) = m := ⟨_, rfl⟩
  replace hk7 := hk7 m hm
  replace hN := Lib.hid hN
  replace h := Lib.hid h
  replace hK := Lib.hid hK
  have hz1' := (Blk.new w 31 #[.int .i64 0, .int .u64 0, .slice none 0 0, .int .i64 0]).alloc (.cells #[.int .i64 0, .int .u64 0, .slice none 0 0, .int .i64 0] 31)
  have hb1' := Blk.new (w.alloc (.cells #[.int .i64 0, .int .u64 0, .slice none 0 0, .int .i64 0] 31)) 31 #[.int .i64 0, .int .u64 0, .slice none 0 0, .int .i64 0]
  rw [World.size_alloc] at hb1'
  have hbl1 := ((Below.refl w.heap.size w).alloc (Nat.le_refl _) (.cells #[.int .i64 0, .int .u64 0, .slice none 0 0, .int .i64 0] 31)).alloc (by simp) (.cells #[.int .i64 0, .int .u64 0, .slice none 0 0, .int .i64 0] 31)
  go_enter Try.func13, Try.ntmps13
  go_wp2_with fail
  generalize (w.alloc (.cells #[.int .i64 0, .int .u64 0, .slice none 0 0, .int .i64 0] 31)).alloc (.cells #[.int .i64 0, .int .u64 0, .slice none 0 0, .int .i64 0] 31) = w1 at *
  go_loopw [7, 8, 16] (fun s7 s8 s16 wr => ∃ (j : Nat) (bf bs_ : Int) (bv bn : Nat) (bl : List (Nat × OpD)) (who : List Int) (L : Nat) (su : Int) (Ab : Option Addr) (cb' : Nat) (A7 : Option Addr) (c7 : Nat), s7 = .slice A7 L c7 ∧ s8 = .int .i64 su ∧ s16 = .int .i64 (j : Int) ∧ j ≤ N ∧ L ≤ j ∧ ChRel w wr B K rs j bf bs_ bv bn bl who L su Ab cb' A7 c7) (fun _ _ i _ => N - (intOf i).toNat)
  case atStart => exact ⟨0, 0, 0, 0, 0, [], [], 0, 0, none, 0, none, 0, rfl, rfl, rfl, Nat.zero_le _, Nat.le_refl _, rfl, rfl, rfl, hb1', hz1', ⟨[], _, LogR.nil _ _⟩, Own.none_, by simp [bOf], hbl1, by decide⟩
  case round =>
    obtain ⟨j, bf, bs_, bv, bn, bl, who, L, su, Ab, cb', A7, c7, rfl, rfl, rfl, hj, hLj, R⟩ := hrel
    have hnw : IntKind.i64.wrap ((j : Int) + 1) = ((j + 1 : Nat) : Int) := by rw [IntKind.wrap_i64]; omega
    by_cases hlt : j < N
    · have hlt' : j < rs.length := by rw [hN.out]; exact hlt
      have hx : rs[j]? = some rs[j] := List.getElem?_eq_getElem _
      have hxl := h.out.hl rs[j] (List.getElem_mem hlt')
      generalize rs[j] = x at hx hxl
      have hbr := R.hb
      have hLr := h.out.below (hbr.mono hB)
      have hLw := h.out.hx j x hx
      obtain ⟨ad, rfl, -, hcx⟩ := hLr.cells hx
      have hcw := hcx wr (Below.refl _ _)
      obtain ⟨xf, xv, xs_, xl⟩ := x
      dsimp only at hcw hxl hLw
      obtain ⟨xn, hxn⟩ : ∃ xn, xl.length = xn := ⟨_, rfl⟩
      rw [hxn] at hcw
      have hx1 : xn ≤ 1000 := by omega
      generalize LA j = Ax at *
      generalize LC j = cx at *
      have d2 : decide ((j : Int) < (N : Int)) = true := decide_eq_true (by omega)
      have hy := Blk.new wr 31 #[.int .i64 xf, .int .u64 (xv : Int), .slice Ax xn cx, .int .i64 xs_]
      have hbl4 := (Below.refl wr.heap.size wr).alloc (Nat.le_refl _) (.cells #[.int .i64 xf, .int .u64 (xv : Int), .slice Ax xn cx, .int .i64 xs_] 31)
      have hrs := Nat.le_trans hB hbr.size
      have hwr := R.own.reads_
      have hcon : ∀ W, Below wr.heap.size wr W → Calls Try.prog 25 #[.slice A7 L c7, .int .i64 xf] W (fun e w' => e = .returned (.bool (decide (xf ∈ who))) ∧ w' = W) := fun W hW => by
        have := contains_int (c := c7) (w := W) (B := wr.heap.size) (A := A7) (l := who) (by rw [R.hL]; exact hwr.below hW) (by rw [R.hL]; omega) xf
        rw [R.hL] at this
        exact this
      have hbest := R.b
      have hzz := R.z
      have hown := R.own
      have hAw := R.hA
      replace hcon := Lib.hid hcon
      replace hxn := Lib.hid hxn
      replace hLw := Lib.hid hLw
      replace hx := Lib.hid hx
      replace R := Lib.hid R
      replace hAw := Lib.hid hAw
      clear hwr hcx hLr
      have hyc := hy.st4
      by_cases h0 : xf < 0
      · have d3 : decide (xf < 0) = true := decide_eq_true h0
        go_wp2_with fail
        exact ⟨⟨j + 1, bf, bs_, bv, bn, bl, who, L, su, Ab, cb', A7, c7, rfl, rfl, by simp [hnw], by omega, by omega, R.out.skip hx.out (.inl h0) hbl4⟩, by simp [intOf]; omega⟩
      have d3 : decide (xf < 0) = false := decide_eq_false h0
      by_cases hK' : K ≤ xf
      · have d4 : decide (K ≤ xf) = true := decide_eq_true hK'
        go_wp2_with fail
        exact ⟨⟨j + 1, bf, bs_, bv, bn, bl, who, L, su, Ab, cb', A7, c7, rfl, rfl, by simp [hnw], by omega, by omega, R.out.skip hx.out (.inr (.inl hK')) hbl4⟩, by simp [intOf]; omega⟩
      have d4 : decide (K ≤ xf) = false := decide_eq_false hK'
      by_cases hmem : xf ∈ who
      · have d5 : decide (xf ∈ who) = true := decide_eq_true hmem
        go_wp2_with fail
        refine (hcon.out _ hbl4).mono ?_
        rintro e w4 ⟨rfl, rfl⟩
        rw [d5]
        try dsimp only
        go_wp2_with fail
        exact ⟨⟨j + 1, bf, bs_, bv, bn, bl, who, L, su, Ab, cb', A7, c7, rfl, rfl, by simp [hnw], by omega, by omega, R.out.skip hx.out (.inr (.inr hmem)) hbl4⟩, by simp [intOf]; omega⟩
      have d5 : decide (xf ∈ who) = false := decide_eq_false hmem
      go_wp2_with fail
      refine (hcon.out _ hbl4).mono ?_
      rintro e w4 ⟨rfl, rfl⟩
      rw [d5]
      try dsimp only
      have hb4 := hbest.alloc (.cells #[.int .i64 xf, .int .u64 (xv : Int), .slice Ax xn cx, .int .i64 xs_] 31)
      have hz4 := hzz.alloc (.cells #[.int .i64 xf, .int .u64 (xv : Int), .slice Ax xn cx, .int .i64 xs_] 31)
      have how4 := hown.alloc (.cells #[.int .i64 xf, .int .u64 (xv : Int), .slice Ax xn cx, .int .i64 xs_] 31)
      have hby := below_then hbl4 hbr
      have hyl := hy.lt
      clear hyc
      generalize hw4 : wr.alloc (.cells #[.int .i64 xf, .int .u64 (xv : Int), .slice Ax xn cx, .int .i64 xs_] 31) = w4 at *
      have hyc := hy.st4
      have hwl := hzz.lt
      have hbtl := hbest.lt
      have hne : wr.heap.size ≠ w.heap.size + 1 := by omega
      have hxA : bOf A7 ≠ some wr.heap.size := fun e => by have := hown.lt e; omega
      have hwne : ∀ g, bOf A7 = some g → g ≠ w.heap.size + 1 := fun g hg => by have := hAw.out g hg; omega
      by_cases hL0 : L = 0
      · have d6 : ((L : Int) == 0) = true := by simp [hL0]
        have hst : (if who = [] ∨ betterR ⟨xf, xv, xs_, xl⟩ ⟨bf, bv, bs_, bl⟩ = true then (⟨xf, xv, xs_, xl⟩ : RpD) else ⟨bf, bv, bs_, bl⟩) = ⟨xf, xv, xs_, xl⟩ := if_pos (.inl (List.eq_nil_of_length_eq_zero (by rw [R.out.hL]; exact hL0)))
        replace hst := Lib.hid hst
        replace hL0 := Lib.hid hL0
        go_upto_region 11 with (refine store_row_gen rfl 31 (Operand.tmp 6) _ rfl (w.heap.size + 1) #[.int .i64 xf, .int .u64 (xv : Int), .slice Ax xn cx, .int .i64 xs_] (by simp [go_sem]) (by simp [go_sem]) 31 _ hb4 (by kernel_rfl) rfl (by simp [Value.oneCell']) (fun w5 hw5 => ?_); have hb5 := hb4.row #[.int .i64 xf, .int .u64 (xv : Int), .slice Ax xn cx, .int .i64 xs_]; have hz5 := hz4.farRow (g := w.heap.size + 1) (by omega) #[.int .i64 xf, .int .u64 (xv : Int), .slice Ax xn cx, .int .i64 xs_]; have hx5 := hy.farRow hne #[.int .i64 xf, .int .u64 (xv : Int), .slice Ax xn cx, .int .i64 xs_]; have how5 := how4.upd ((Upd.refl (fun g => g = w.heap.size + 1) w4).setRow (g := w.heap.size + 1) (fun _ => rfl) #[.int .i64 xf, .int .u64 (xv : Int), .slice Ax xn cx, .int .i64 xs_]) hwne; have hbl5 := below_row hby (g := w.heap.size + 1) (by omega) #[.int .i64 xf, .int .u64 (xv : Int), .slice Ax xn cx, .int .i64 xs_]; rw [← hw5] at hb5 hz5 hx5 how5 hbl5; clear hw5)
        clear hyc hb4 hz4 how4
        have hsrc := Reads.lit (size := 1) w5 #[.int .i64 xf] 3 (0, 0) 1 [.int .i64 xf] rfl rfl
        have how6 := how5.alloc (.cells #[.int .i64 xf] 3)
        have hb6' := hb5.alloc (.cells #[.int .i64 xf] 3)
        have hz6 := hz5.alloc (.cells #[.int .i64 xf] 3)
        have hx6 := hx5.alloc (.cells #[.int .i64 xf] 3)
        have hbl6 := hbl5.alloc hbl5.size (.cells #[.int .i64 xf] 3)
        have hyc5 := hx5.st4
        obtain ⟨su', hsu⟩ : ∃ s', (if su < xs_ then xs_ else su) = s' := ⟨_, rfl⟩
        go_wp2_with (at_builtin; go_must (refine wpList_append_mine rfl _ _ 35 35 rfl 3 i0 _ 1 8 Try.underlying35 hi hz0 hz1 hz2 rfl rfl how6 rfl (Src.ofReads Try.underlying35 _ hsrc (by intro u hu; simp at hu; subst hu; rfl)) (by unfold maxLen; omega) (by omega) (fun A8 c8 w8 ho8 hg8 hat8 => ?_)); have hx8 := hx6.grown hg8 (by rw [Ne, eq_comm]; intro e; exact hxA e); have hyc8 := hx8.st4)
        have hb8 := hb6'.grown hg8 (by intro e; have := hAw.out _ e.symm; omega)
        have hz8 := hz6.grown hg8 (by intro e; have := hAw.out _ e.symm; omega)
        have hbl8 := hbl6.grown hg8 hbl6.size (fun g hg => by have := hAw.out g hg; omega)
        have hA8 : ∀ g, bOf A8 = some g → w.heap.size + 2 ≤ g := fun g hg => by
          rcases hat8 with h | h <;> rw [h] at hg
          · exact hAw.out g hg
          · cases hg; have := hb5.lt; simp; omega
        rw [← ints_snoc] at ho8
        exact ⟨⟨j + 1, xf, xs_, xv, xn, xl, _, L + 1, su', Ax, cx, A8, c8, rfl, by simp [hsu], by simp [hnw], by omega, by omega, R.out.take hx.out (fun e => by dsimp only at e; omega) (fun e => by dsimp only at e; omega) hmem hst.out hsu, hxn.out, by rw [List.length_append, R.out.hL]; rfl, hb8, hz8, hLw.out, ho8, hA8, hbl8, hx1⟩, by simp [intOf]; omega⟩
      · have d6 : ((L : Int) == 0) = false := by rw [beq_eq_false_iff_ne]; omega
        have hbc := hb4.st4
        have hwn : who ≠ [] := fun e => hL0 (by rw [← R.out.hL, e]; rfl)
        have hbt : betterR ⟨xf, xv, xs_, xl⟩ ⟨bf, bv, bs_, bl⟩ = betterB xv bv xn bn xf bf := by unfold betterR; dsimp only; rw [hxn.out, R.out.hn]
        have hst : (if who = [] ∨ betterR ⟨xf, xv, xs_, xl⟩ ⟨bf, bv, bs_, bl⟩ = true then (⟨xf, xv, xs_, xl⟩ : RpD) else ⟨bf, bv, bs_, bl⟩) = (if betterB xv bv xn bn xf bf = true then (⟨xf, xv, xs_, xl⟩ : RpD) else ⟨bf, bv, bs_, bl⟩) := by rw [hbt]; simp [hwn]
        have hbw := vl_better (w := w4) (f1 := xf) (f2 := bf) (s1 := xs_) (s2 := bs_) (v1 := xv) (v2 := bv) (n1 := xn) (n2 := bn) (c1 := cx) (c2 := cb') (A1 := Ax) (A2 := Ab)
        generalize betterB xv bv xn bn xf bf = q at hst hbw
        clear hwn hbt
        replace hst := Lib.hid hst
        go_wp2_with fail
        refine hbw.mono ?_
        clear hbw
        rintro e w4' ⟨rfl, hb44⟩
        try dsimp only
        replace hb4 := hb4.below hb44 hb4.lt
        replace hz4 := hz4.below hb44 hz4.lt
        replace how4 := how4.below hb44 (Nat.le_refl _)
        replace hby := below_then hb44 hby
        replace hy := hy.below hb44 hyl
        clear hyc hbc hbl4 hw4
        have hyc := hy.st4
        generalize w4 = w40 at *
        cases q
        · go_upto_region 11 with (fail)
          replace hst := Lib.hid (hst.out.trans (if_neg (by simp)))
          obtain ⟨w5, rfl⟩ : ∃ w5, w5 = w4' := ⟨_, rfl⟩
          have hb5 := hb4
          have hz5 := hz4
          have hx5 := hy
          have how5 := how4
          have hbl5 := hby
          clear hyc hb4 hz4 how4
          have hsrc := Reads.lit (size := 1) w5 #[.int .i64 xf] 3 (0, 0) 1 [.int .i64 xf] rfl rfl
          have how6 := how5.alloc (.cells #[.int .i64 xf] 3)
          have hb6' := hb5.alloc (.cells #[.int .i64 xf] 3)
          have hz6 := hz5.alloc (.cells #[.int .i64 xf] 3)
          have hx6 := hx5.alloc (.cells #[.int .i64 xf] 3)
          have hbl6 := hbl5.alloc hbl5.size (.cells #[.int .i64 xf] 3)
          have hyc5 := hx5.st4
          obtain ⟨su', hsu⟩ : ∃ s', (if su < xs_ then xs_ else su) = s' := ⟨_, rfl⟩
          go_wp2_with (at_builtin; go_must (refine wpList_append_mine rfl _ _ 35 35 rfl 3 i0 _ 1 8 Try.underlying35 hi hz0 hz1 hz2 rfl rfl how6 rfl (Src.ofReads Try.underlying35 _ hsrc (by intro u hu; simp at hu; subst hu; rfl)) (by unfold maxLen; omega) (by omega) (fun A8 c8 w8 ho8 hg8 hat8 => ?_)); have hx8 := hx6.grown hg8 (by rw [Ne, eq_comm]; intro e; exact hxA e); have hyc8 := hx8.st4)
          have hb8 := hb6'.grown hg8 (by intro e; have := hAw.out _ e.symm; omega)
          have hz8 := hz6.grown hg8 (by intro e; have := hAw.out _ e.symm; omega)
          have hbl8 := hbl6.grown hg8 hbl6.size (fun g hg => by have := hAw.out g hg; omega)
          have hA8 : ∀ g, bOf A8 = some g → w.heap.size + 2 ≤ g := fun g hg => by
            rcases hat8 with h | h <;> rw [h] at hg
            · exact hAw.out g hg
            · cases hg; have := hb5.lt; simp; omega
          rw [← ints_snoc] at ho8
          exact ⟨⟨j + 1, bf, bs_, bv, bn, bl, _, L + 1, su', Ab, cb', A8, c8, rfl, by simp [hsu], by simp [hnw], by omega, by omega, R.out.take hx.out (fun e => by dsimp only at e; omega) (fun e => by dsimp only at e; omega) hmem hst.out hsu, R.out.hn, by rw [List.length_append, R.out.hL]; rfl, hb8, hz8, R.out.lg, ho8, hA8, hbl8, R.out.b1⟩, by simp [intOf]; omega⟩
        · replace hst := Lib.hid (hst.out.trans (if_pos rfl))
          go_upto_region 11 with (refine store_row_gen rfl 31 (Operand.tmp 6) _ rfl (w.heap.size + 1) #[.int .i64 xf, .int .u64 (xv : Int), .slice Ax xn cx, .int .i64 xs_] (by simp [go_sem]) (by simp [go_sem]) 31 _ hb4 (by kernel_rfl) rfl (by simp [Value.oneCell']) (fun w5 hw5 => ?_); have hb5 := hb4.row #[.int .i64 xf, .int .u64 (xv : Int), .slice Ax xn cx, .int .i64 xs_]; have hz5 := hz4.farRow (g := w.heap.size + 1) (by omega) #[.int .i64 xf, .int .u64 (xv : Int), .slice Ax xn cx, .int .i64 xs_]; have hx5 := hy.farRow hne #[.int .i64 xf, .int .u64 (xv : Int), .slice Ax xn cx, .int .i64 xs_]; have how5 := how4.upd ((Upd.refl (fun g => g = w.heap.size + 1) w4').setRow (g := w.heap.size + 1) (fun _ => rfl) #[.int .i64 xf, .int .u64 (xv : Int), .slice Ax xn cx, .int .i64 xs_]) hwne; have hbl5 := below_row hby (g := w.heap.size + 1) (by omega) #[.int .i64 xf, .int .u64 (xv : Int), .slice Ax xn cx, .int .i64 xs_]; rw [← hw5] at hb5 hz5 hx5 how5 hbl5; clear hw5)
          clear hyc hb4 hz4 how4
          have hsrc := Reads.lit (size := 1) w5 #[.int .i64 xf] 3 (0, 0) 1 [.int .i64 xf] rfl rfl
          have how6 := how5.alloc (.cells #[.int .i64 xf] 3)
          have hb6' := hb5.alloc (.cells #[.int .i64 xf] 3)
          have hz6 := hz5.alloc (.cells #[.int .i64 xf] 3)
          have hx6 := hx5.alloc (.cells #[.int .i64 xf] 3)
          have hbl6 := hbl5.alloc hbl5.size (.cells #[.int .i64 xf] 3)
          have hyc5 := hx5.st4
          obtain ⟨su', hsu⟩ : ∃ s', (if su < xs_ then xs_ else su) = s' := ⟨_, rfl⟩
          go_wp2_with (at_builtin; go_must (refine wpList_append_mine rfl _ _ 35 35 rfl 3 i0 _ 1 8 Try.underlying35 hi hz0 hz1 hz2 rfl rfl how6 rfl (Src.ofReads Try.underlying35 _ hsrc (by intro u hu; simp at hu; subst hu; rfl)) (by unfold maxLen; omega) (by omega) (fun A8 c8 w8 ho8 hg8 hat8 => ?_)); have hx8 := hx6.grown hg8 (by rw [Ne, eq_comm]; intro e; exact hxA e); have hyc8 := hx8.st4)
          have hb8 := hb6'.grown hg8 (by intro e; have := hAw.out _ e.symm; omega)
          have hz8 := hz6.grown hg8 (by intro e; have := hAw.out _ e.symm; omega)
          have hbl8 := hbl6.grown hg8 hbl6.size (fun g hg => by have := hAw.out g hg; omega)
          have hA8 : ∀ g, bOf A8 = some g → w.heap.size + 2 ≤ g := fun g hg => by
            rcases hat8 with h | h <;> rw [h] at hg
            · exact hAw.out g hg
            · cases hg; have := hb5.lt; simp; omega
          rw [← ints_snoc] at ho8
          exact ⟨⟨j + 1, xf, xs_, xv, xn, xl, _, L + 1, su', Ax, cx, A8, c8, rfl, by simp [hsu], by simp [hnw], by omega, by omega, R.out.take hx.out (fun e => by dsimp only at e; omega) (fun e => by dsimp only at e; omega) hmem hst.out hsu, hxn.out, by rw [List.length_append, R.out.hL]; rfl, hb8, hz8, hLw.out, ho8, hA8, hbl8, hx1⟩, by simp [intOf]; omega⟩
    · have hjN : j = N := by omega
      have hst := R.st
      rw [List.take_of_length_le (by rw [hN.out]; omega), ← hK.out] at hst
      have hgo := goodC_fold (clampI n) rs (zeroR, [], 0) ⟨by simp, by simp⟩
      rw [hst] at hgo
      have hch : chooseS n rs = (⟨bf, bv, bs_, bl⟩, who, su) := hst
      have hqh := fun W (hW : Below wr.heap.size wr W) => q_has (w := W) (c := c7) (n := K) (by have := R.own.reads_.below hW; rw [R.hL]; exact this) (by rw [R.hL]; omega) hgo.1 (by rw [← hK.out, clampI_idem]; exact hgo.2)
      rw [R.hL, ← hK.out, hasB_clamp] at hqh
      rw [hK.out] at hqh
      have hok : chOk n rs = hasB n L := by unfold chOk; rw [hch, R.hL]
      have hbest := R.b
      have hzz := R.z
      have hbr := R.hb
      have hbn := R.hn
      obtain ⟨ysb, cstb, hLb⟩ := R.lg
      have hcl := fun W (hW : Below w.heap.size w W) => vl_clone (hLb.below (hW.mono hB)) (Nat.le_trans hB hW.size) (by rw [hbn]; have := R.b1; omega)
      rw [hbn] at hcl
      obtain ⟨mn, hmn⟩ : ∃ m : Int, (if (bn : Int) < su then (bn : Int) else su) = m := ⟨_, rfl⟩
      have hsu : chSure n rs = mn := by unfold chSure; rw [hch]; dsimp only; rw [hbn]; exact hmn
      have no : ∀ e w', Below w.heap.size w w' → hasB n L = false → e = .returned (.tuple #[.agg #[.int .i64 0, .int .u64 0, .slice none 0 0, .int .i64 0], .bool false]) → ChVl w n rs e w' := fun e w' hb hc he => ⟨hb, .inl ⟨by rw [hok]; exact hc, he⟩⟩
      have yes : ∀ e w' A c xs css, Below w.heap.size w w' → hasB n L = true → e = .returned (.tuple #[.agg #[.int .i64 bf, .int .u64 (bv : Int), .slice A bn c, .int .i64 mn], .bool true]) → LogP w' w.heap.size A c (cleanLog bl) xs css → ChVl w n rs e w' := fun e w' A c xs css hb hc he hp => ⟨hb, .inr ⟨by rw [hok]; exact hc, A, c, xs, css, by rw [hch, hsu]; dsimp only; rw [hbn]; exact he, by rw [hch]; exact hp⟩⟩
      have hcln : (cleanLog bl).length = bn := by unfold cleanLog; rw [List.length_map, hbn]
      have d2 : decide ((j : Int) < (N : Int)) = false := decide_eq_false (by omega)
      have d2' : decide (j < N) = false := decide_eq_false (by omega)
      generalize hasB n L = q at hqh no yes
      replace hqh := Lib.hid hqh
      replace no := Lib.hid no
      replace yes := Lib.hid yes
      replace hcl := Lib.hid hcl
      replace hcln := Lib.hid hcln
      clear hst hgo hch hok R hLb hsu hbn hjN
      go_wp2_with fail
      refine (hqh.out _ (Below.refl _ _)).mono ?_
      rintro e w3 ⟨rfl, rfl⟩
      try dsimp only
      cases q
      · have hzr := hzz.row #[.int .i64 0, .int .u64 0, .slice none 0 0, .int .i64 0]
        have hbz := below_row hbr (g := w.heap.size) (Nat.le_refl _) #[.int .i64 0, .int .u64 0, .slice none 0 0, .int .i64 0]
        go_wp2_with (refine store_row_gen rfl 31 (Operand.tmp 4) _ rfl w.heap.size #[.int .i64 0, .int .u64 0, .slice none 0 0, .int .i64 0] (by simp [go_sem]) (by simp [go_sem]) 31 _ hzz (by kernel_rfl) rfl (by simp [Value.oneCell']) (fun w5 hw5 => ?_); rw [← hw5] at hzr hbz; clear hw5)
        refine bodyPost_ret (v := .tuple #[.agg #[.int .i64 0, .int .u64 0, .slice none 0 0, .int .i64 0], .bool false]) (by exact results_ct rfl _ _ w.heap.size 31 _ (0, 0) _ _ rfl rfl hzr Try.underlying31 rfl (by kernel_rfl)) rfl ?_
        exact no.out _ _ hbz (by first | rfl | trivial) rfl
      · go_upto_region 16 with (fail)
        obtain ⟨w30, rfl⟩ : ∃ w30, w30 = w3 := ⟨_, rfl⟩
        have hbl := hbest.lt
        have hS0 : Below w30.heap.size w30 w30.drew := (Below.refl _ _).drew
        refine wp_region_lex (fun W => Below w30.heap.size w30 W) [1, 3, 5, 9] [6, 13] [0, 1, 2, 3, 4, 5, 7, 8, 9, 10, 11, 6, 12, 13, 14] (by kernel_rfl) rfl (by kernel_rfl) (by kernel_rfl) (fun _ _ d _ _ h => by cases d <;> exact h) ?_
        repeat (first | (refine lexG_take _ ?_ rfl rfl rfl rfl (fun _ => ?_) ?_; rotate_left; (focus (go_simp; with_reducible rfl)); try simp only [Act.put, List.setIfInBounds_toArray, List.set_cons_zero, List.set_cons_succ]) | (refine lexG_held _ ?_ rfl rfl rfl rfl (by assumption) (fun _ hSw => ?_) ?_; rotate_left; (focus (have h1 := (hbest.below hSw hbl).st4; clear hSw; go_simp; with_reducible rfl)); try simp only [Act.put, List.setIfInBounds_toArray, List.set_cons_zero, List.set_cons_succ]) | (refine lexG_skip _ rfl rfl (by assumption) ?_; try simp only [Act.put, List.setIfInBounds_toArray, List.set_cons_zero, List.set_cons_succ]))
        refine lexG_now _ rfl rfl rfl (fun K0 hK => ?_)
        go_wp2_with fail
        refine (hcl.out _ (below_then hS0 hbr)).mono ?_
        rintro e w6 ⟨A6, c6, xs6, css6, rfl, P6, hb6⟩
        rw [hcln.out]
        try dsimp only
        have hS6 := below_then hb6 hS0
        refine hK _ _ _ (fun _ h => h) hS6 ?_
        clear hK K0
        try simp only [Act.put, List.setIfInBounds_toArray, List.set_cons_zero, List.set_cons_succ]
        repeat (first | (refine lexG_take _ ?_ rfl rfl rfl rfl (fun _ => ?_) ?_; rotate_left; (focus (go_simp; with_reducible rfl)); try simp only [Act.put, List.setIfInBounds_toArray, List.set_cons_zero, List.set_cons_succ]) | (refine lexG_held _ ?_ rfl rfl rfl rfl (by assumption) (fun _ hSw => ?_) ?_; rotate_left; (focus (have h1 := (hbest.below hSw hbl).st4; clear hSw; go_simp; with_reducible rfl)); try simp only [Act.put, List.setIfInBounds_toArray, List.set_cons_zero, List.set_cons_succ]) | (refine lexG_skip _ rfl rfl (by assumption) ?_; try simp only [Act.put, List.setIfInBounds_toArray, List.set_cons_zero, List.set_cons_succ]))
        have hz6 := hzz.below (below_then hS6 (Below.refl w30.heap.size w30)) hzz.lt
        have hzr := hz6.row #[.int .i64 bf, .int .u64 (bv : Int), .slice A6 bn c6, .int .i64 mn]
        have hbz := below_row (below_then hS6 hbr) (g := w.heap.size) (Nat.le_refl _) #[.int .i64 bf, .int .u64 (bv : Int), .slice A6 bn c6, .int .i64 mn]
        have hwl := hzz.lt
        have P7 := P6.upd (b' := w.heap.size) ((Upd.refl (fun g => g = w.heap.size) w6).setRow (g := w.heap.size) (fun _ => rfl) #[.int .i64 bf, .int .u64 (bv : Int), .slice A6 bn c6, .int .i64 mn]) (fun g hg => by have h1 : g = w.heap.size := hg; have h2 := hS0.size; omega) (Nat.le_trans hbr.size hS0.size)
        refine lexG_nowF _ rfl rfl rfl (by kernel_rfl) (fun K0 hK => ?_)
        refine wp_store_row 31 (Operand.tmp 4) _ rfl w.heap.size #[.int .i64 bf, .int .u64 (bv : Int), .slice A6 bn c6, .int .i64 mn] (by simp [go_sem]) (by simp [go_sem]) 31 _ hz6 (by kernel_rfl) rfl (by simp [Value.oneCell']) ?_
        generalize w6.setRow w.heap.size #[.int .i64 bf, .int .u64 (bv : Int), .slice A6 bn c6, .int .i64 mn] = w7 at *
        go_simp
        refine hK _ _ ?_
        clear hK K0
        try simp only [Act.put, List.setIfInBounds_toArray, List.set_cons_zero, List.set_cons_succ]
        repeat (first | (refine lexG_take _ ?_ rfl rfl rfl rfl (fun _ => ?_) ?_; rotate_left; (focus (go_simp; with_reducible rfl)); try simp only [Act.put, List.setIfInBounds_toArray, List.set_cons_zero, List.set_cons_succ]) | (refine lexG_held _ ?_ rfl rfl rfl rfl (by assumption) (fun _ hSw => ?_) ?_; rotate_left; (focus ((try dsimp only at hSw); go_simp; with_reducible rfl)); try simp only [Act.put, List.setIfInBounds_toArray, List.set_cons_zero, List.set_cons_succ]) | (refine lexG_skip _ rfl rfl (by assumption) ?_; try simp only [Act.put, List.setIfInBounds_toArray, List.set_cons_zero, List.set_cons_succ]))
        refine lexG_nil ?_
        go_wp2_with fail
        refine bodyPost_ret (v := .tuple #[.agg #[.int .i64 bf, .int .u64 (bv : Int), .slice A6 bn c6, .int .i64 mn], .bool true]) (by exact results_ct rfl _ _ w.heap.size 31 _ (0, 0) _ _ rfl rfl hzr Try.underlying31 rfl (by kernel_rfl)) rfl ?_
        exact yes.out _ _ A6 c6 xs6 css6 hbz (by first | rfl | trivial) rfl P7
end Go.Proofs.Ytfmmabkekjchjaa
