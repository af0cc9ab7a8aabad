/- Reports that are built one by one; choirlaw26.same; reports that come as an argument. -/
import Derived.Test.YtfmmabkekjchjaaVl10
import Derived.Test.YtfmmabkekjchjaaFrame
set_option linter.unusedSimpArgs false
set_option linter.unusedVariables false
namespace Go.Proofs.Ytfmmabkekjchjaa
open Go.RowKit
set_option maxRecDepth 100000

/-- A log that is read as long as no block turns but those of P, and new ones. -/
def LogH (w : World) (P : Nat → Prop) (A : Option Addr) (c : Nat) (l : List (Nat × OpD)) : Prop := ∀ (S : Nat → Prop) (W : World), Upd S w W → (∀ g, S g → P g) → ∃ xs css, LogR W W.heap.size A c l xs css
theorem LogH.next {w w2 : World} {P P' T : Nat → Prop} {A : Option Addr} {c : Nat} {l : List (Nat × OpD)} (h : LogH w P A c l) (hu : Upd T w w2) (hT : ∀ g, g < w.heap.size → T g → P g) (hP : ∀ g, g < w.heap.size → P' g → P g) : LogH w2 P' A c l :=
  fun S W hW hS => h (fun g => g < w.heap.size ∧ (S g ∨ T g)) W ((hu.mono (T := fun g => g < w.heap.size ∧ (S g ∨ T g)) (fun k hk ht => ⟨hk, .inr ht⟩)).trans hW (fun i hi hs => ⟨hi, .inl hs⟩))
    (fun g hg => hg.2.elim (fun hs => hP g hg.1 (hS g hs)) (fun ht => hT g hg.1 ht))
theorem LogH.reads {w : World} {P : Nat → Prop} {A : Option Addr} {c : Nat} {l : List (Nat × OpD)} (h : LogH w P A c l) : ∃ xs css, LogR w w.heap.size A c l xs css := h (fun _ => False) w (Upd.refl _ w) (fun _ hf => hf.elim)
theorem LogP.held {w : World} {b c : Nat} {A : Option Addr} {l : List (Nat × OpD)} {xs : List Value} {css : Nat → Array Value} (h : LogP w b A c l xs css) : LogH w (fun g => g < b) A c l := fun S W hu hS => ⟨xs, css, h.reads hu hS⟩
theorem LogH.nil (w : World) (P : Nat → Prop) : LogH w P none 0 [] := fun S W hu hS => ⟨[], _, LogR.nil _ _⟩

structure RpsP (w : World) (b : Nat) (A : Option Addr) (c : Nat) (rs : List RpD) (xs : List Value) (LA : Nat → Option Addr) (LC : Nat → Nat) : Prop where
  ho : Own w 31 4 A rs.length c xs
  hA : ∀ g, bOf A = some g → b ≤ g
  hx : ∀ j x, rs[j]? = some x → LogH w (fun g => g < b ∨ some g = bOf A) (LA j) (LC j) x.l
  hxs : ∀ j x, rs[j]? = some x → (xs.drop (j * 4)).take 4 = [Value.int .i64 x.f, .int .u64 (x.v : Int), .slice (LA j) x.l.length (LC j), .int .i64 x.s]
  hl : ∀ x ∈ rs, x.l.length ≤ 1000
  ok : ∀ x ∈ rs, OkLog x.l
theorem RpsP.nil (w : World) (b : Nat) : RpsP w b none 0 [] [] (fun _ => none) (fun _ => 0) := ⟨Own.none_, by simp [bOf], by simp, by simp, by simp, by simp⟩
theorem RpsP.rps {w : World} {b : Nat} {A : Option Addr} {c : Nat} {rs : List RpD} {xs : List Value} {LA : Nat → Option Addr} {LC : Nat → Nat} (h : RpsP w b A c rs xs LA LC) : RpsR w w.heap.size A rs xs LA LC :=
  ⟨h.ho.reads_, fun j x hj => (h.hx j x hj).reads, h.hxs, h.hl⟩
theorem RpsP.push {w w7 w8 : World} {b c8 : Nat} {A8 A1 : Option Addr} {c1 : Nat} {x : RpD} {A : Option Addr} {c : Nat} {rs : List RpD} {xs : List Value} {LA : Nat → Option Addr} {LC : Nat → Nat} (h : RpsP w b A c rs xs LA LC) (hbw : b ≤ w.heap.size) (hb : Below w.heap.size w w7)
    (ho8 : Own w8 31 4 A8 (rs.length + 1) c8 (xs ++ [Value.int .i64 x.f, .int .u64 (x.v : Int), .slice A1 x.l.length c1, .int .i64 x.s])) (hg8 : w7.grownBy w8 (bOf A)) (hat : bOf A8 = bOf A ∨ bOf A8 = some w7.heap.size)
    (hop : LogH w7 (fun g => g < w.heap.size) A1 c1 x.l) (hl : x.l.length ≤ 1000) (hok : OkLog x.l) :
    RpsP w8 b A8 c8 (rs ++ [x]) (xs ++ [Value.int .i64 x.f, .int .u64 (x.v : Int), .slice A1 x.l.length c1, .int .i64 x.s]) (fun k => if k = rs.length then A1 else LA k) (fun k => if k = rs.length then c1 else LC k) := by
  have hlx := h.ho.len
  have h7 := hb.size
  have hu7 : Upd (fun g => some g = bOf A) w7 w8 := (Upd.refl _ w7).grown hg8 (fun k e _ => e.symm)
  have hu : Upd (fun g => some g = bOf A) w w8 := (Upd.of_below_size hb).trans hu7 (fun _ _ e => e)
  refine ⟨by rw [List.length_append]; exact ho8, fun g hg => ?_, fun j y hj => ?_, fun j y hj => ?_, fun y hy => ?_, fun y hy => ?_⟩
  · rcases hat with e | e <;> rw [e] at hg
    · exact h.hA g hg
    · cases hg; omega
  · rcases Nat.lt_trichotomy j rs.length with hjl | hjl | hjl
    · rw [if_neg (by omega), if_neg (by omega)]
      rw [List.getElem?_append_left hjl] at hj
      refine (h.hx j y hj).next hu (fun g _ e => .inr e) (fun g hg hp => ?_)
      rcases hp with hp | hp
      · exact .inl hp
      · rcases hat with e | e <;> rw [e] at hp
        · exact .inr hp
        · cases hp; omega
    · subst hjl
      rw [if_pos rfl, if_pos rfl]
      simp at hj
      subst hj
      refine hop.next hu7 (fun g _ e => h.ho.lt e.symm) (fun g hg hp => ?_)
      rcases hp with hp | hp
      · omega
      · rcases hat with e | e <;> rw [e] at hp
        · exact h.ho.lt hp.symm
        · cases hp; omega
    · rw [List.getElem?_eq_none (by simp; omega)] at hj; cases hj
  · rcases Nat.lt_trichotomy j rs.length with hjl | hjl | hjl
    · rw [if_neg (by omega), if_neg (by omega)]
      rw [List.getElem?_append_left hjl] at hj
      rw [← h.hxs j y hj, List.drop_append_of_le_length (by omega), List.take_append_of_le_length (by rw [List.length_drop]; omega)]
    · subst hjl
      rw [if_pos rfl, if_pos rfl]
      simp at hj
      subst hj
      rw [List.drop_left' hlx]
      rfl
    · rw [List.getElem?_eq_none (by simp; omega)] at hj; cases hj
  · rcases List.mem_append.1 hy with hy | hy
    · exact h.hl y hy
    · cases List.mem_singleton.1 hy; exact hl
  · rcases List.mem_append.1 hy with hy | hy
    · exact h.ok y hy
    · cases List.mem_singleton.1 hy; exact hok

theorem choose_ok (n : Int) (rs : List RpD) (h : ∀ x ∈ rs, OkLog x.l) : OkLog (chooseS n rs).1.l := by
  have key : ∀ (K : Int) (rs : List RpD) (st : RpD × List Int × Int), (∀ x ∈ rs, OkLog x.l) → OkLog st.1.l → OkLog (rs.foldl (stepC K) st).1.l := by
    intro K rs
    induction rs with
    | nil => intro st _ h; exact h
    | cons r rs ih =>
      intro st hr hs
      refine ih _ (fun x hx => hr x (List.mem_cons_of_mem _ hx)) ?_
      unfold stepC
      split
      · exact hs
      · dsimp only
        split
        · exact hr r (List.mem_cons_self ..)
        · exact hs
  exact key _ _ _ h (by simp [zeroR, OkLog])
theorem choose_len (n : Int) (rs : List RpD) (h : ∀ x ∈ rs, x.l.length ≤ 1000) : (chooseS n rs).1.l.length ≤ 1000 := by
  have key : ∀ (K : Int) (rs : List RpD) (st : RpD × List Int × Int), (∀ x ∈ rs, x.l.length ≤ 1000) → st.1.l.length ≤ 1000 → (rs.foldl (stepC K) st).1.l.length ≤ 1000 := by
    intro K rs
    induction rs with
    | nil => intro st _ h; exact h
    | cons r rs ih =>
      intro st hr hs
      refine ih _ (fun x hx => hr x (List.mem_cons_of_mem _ hx)) ?_
      unfold stepC
      split
      · exact hs
      · dsimp only
        split
        · exact hr r (List.mem_cons_self ..)
        · exact hs
  exact key _ _ _ h (by simp [zeroR])

/-- Two reports of one log are the same. -/
theorem same_rep {w : World} {B c1 c2 n1 xv : Nat} {xf xs_ : Int} {A1 A2 : Option Addr} {l : List (Nat × OpD)} {xs ys : List Value} {css cst : Nat → Array Value} (h : LogR w B A1 c1 l xs css) (h' : LogR w B A2 c2 l ys cst) (hB : B ≤ w.heap.size) (hl : l.length ≤ 1000000) (hn : l.length = n1) :
    Calls Try.prog 15 #[.agg #[.int .i64 xf, .int .u64 (xv : Int), .slice A1 n1 c1, .int .i64 xs_], .agg #[.int .i64 xf, .int .u64 (xv : Int), .slice A2 n1 c2, .int .i64 xs_]] w (Says w (.bool true)) := by
  have b1 := ((Blk.new w 31 #[.int .i64 xf, .int .u64 (xv : Int), .slice A1 n1 c1, .int .i64 xs_]).alloc (.cells #[.int .i64 xf, .int .u64 (xv : Int), .slice A2 n1 c2, .int .i64 xs_] 31)).st4
  have b2 := (Blk.new (w.alloc (.cells #[.int .i64 xf, .int .u64 (xv : Int), .slice A1 n1 c1, .int .i64 xs_] 31)) 31 #[.int .i64 xf, .int .u64 (xv : Int), .slice A2 n1 c2, .int .i64 xs_])
  rw [World.size_alloc] at b2
  replace b2 := b2.st4
  have hbl := ((Below.refl w.heap.size w).alloc (Nat.le_refl _) (.cells #[.int .i64 xf, .int .u64 (xv : Int), .slice A1 n1 c1, .int .i64 xs_] 31)).alloc (by simp) (.cells #[.int .i64 xf, .int .u64 (xv : Int), .slice A2 n1 c2, .int .i64 xs_] 31)
  have hen := entries_true (c := c1) (c' := c2) (h.below (hbl.mono hB)) (h'.below (hbl.mono hB)) (Nat.le_trans hB hbl.size) hl
  rw [hn] at hen
  replace hen := Lib.hid hen
  go_enter Try.func15, Try.ntmps15
  go_wp2_with fail
  refine hen.out.mono ?_
  rintro e w2 ⟨rfl, hb2⟩
  try dsimp only
  have hb3 := below_then hb2 hbl
  go_wp2_with fail
  go_ret
  exact ⟨rfl, hb3⟩
/-- Two that are empty. -/
theorem same_zero {w : World} : Calls Try.prog 15 #[.agg #[.int .i64 0, .int .u64 0, .slice none 0 0, .int .i64 0], .agg #[.int .i64 0, .int .u64 0, .slice none 0 0, .int .i64 0]] w (Says w (.bool true)) :=
  same_rep (xf := 0) (xv := 0) (xs_ := 0) (A1 := none) (A2 := none) (c1 := 0) (c2 := 0) (l := []) (LogR.nil w 0) (LogR.nil w 0) (Nat.zero_le _) (by decide) rfl

structure RpA where
  f : Nat
  v : Nat
  s : Nat
  l : List UInt8
/-- The cells of a report of few numbers. -/
def RpIs (W : World) (r : RpA) (cs : Array Value) : Prop :=
  ∃ (A : Option Addr) (c : Nat), cs = #[.int .u8 (r.f : Int), .int .u8 (r.v : Int), .int .u8 (r.s : Int), .slice A r.l.length c] ∧ Reads W W.heap.size 1 A r.l.length (bys r.l) ∧ r.f ≤ 255 ∧ r.v ≤ 255 ∧ r.s ≤ 255
theorem u8_nat {x : Int} (h : (Lit.int .u8 x).wf = true) : ∃ n : Nat, x = (n : Int) ∧ n ≤ 255 := by
  simp [Lit.wf, IntKind.min, IntKind.max, IntKind.signed, IntKind.bits] at h
  exact ⟨x.toNat, by omega, by omega⟩
end Go.Proofs.Ytfmmabkekjchjaa
namespace Go.Proofs.Ytfmmabkekjchjaa
open Go.ChangeShapes Go.WideShapes Go.ChangeAt Go.RowKit
set_option maxRecDepth 100000
section
variable {H : Type} {enc : TypeId × Value → H} {W : World}
/-- Cells of a row of structs, element by element. -/
theorem rows_of {α : Type} {W : World} {S : Nat} (hS : 0 < S) {P : α → Array Value → Prop} {a : Addr} {len : Nat} (each : ∀ i, i < len → ∃ (x : α) (cs : Array Value), P x cs ∧ cs.toList.length = S ∧ ∀ j u, cs.toList[j]? = some u → W.cell? (a.add (i * S + j)) = some u) :
    ∃ (l : List α) (xs : List Value) (css : Nat → Array Value), l.length = len ∧ Reads W W.heap.size S (some a) len xs ∧ (∀ j x, l[j]? = some x → P x (css j)) ∧ (∀ j, j < len → (xs.drop (j * S)).take S = (css j).toList) ∧ ∀ j, j < len → (css j).toList.length = S := by
  induction len with
  | zero => exact ⟨[], [], fun _ => #[], rfl, ⟨by simp, fun h => absurd h (by omega)⟩, by simp, fun j h => absurd h (by omega), fun j h => absurd h (by omega)⟩
  | succ len ih =>
    obtain ⟨l, xs, css, hl, hr, hp, hx, hsz⟩ := ih (fun i hi => each i (by omega))
    obtain ⟨x, cs, hP, hcs, hcell⟩ := each len (by omega)
    have hxl := hr.len
    refine ⟨l ++ [x], xs ++ cs.toList, fun j => if j = len then cs else css j, by simp [hl], ⟨by rw [List.length_append, hxl, hcs, Nat.add_mul, Nat.one_mul], fun _ => ⟨a, rfl, ?_, fun q u hq => ?_⟩⟩, fun j y hj => ?_, fun j hj => ?_, fun j hj => ?_⟩
    · obtain ⟨u, hu⟩ : ∃ u, cs.toList[0]? = some u := ⟨_, List.getElem?_eq_getElem (by omega)⟩
      have := World.block_lt_of_cell? W _ (hcell 0 u hu)
      rwa [block_of_add] at this
    · rcases Nat.lt_or_ge q xs.length with h | h
      · rw [List.getElem?_append_left h] at hq
        have hlen : 0 < len := by
          rcases Nat.eq_zero_or_pos len with h0 | h0
          · subst h0; omega
          · exact h0
        obtain ⟨ad, e, -, hc⟩ := hr.2 hlen
        cases e
        exact hc q u hq
      · rw [List.getElem?_append_right h] at hq
        have := hcell _ u hq
        rw [hxl] at this
        rw [← this]
        congr 2
        omega
    · dsimp only
      rcases Nat.lt_trichotomy j len with h | h | h
      · rw [List.getElem?_append_left (by omega)] at hj
        rw [if_neg (by omega)]
        exact hp j y hj
      · subst h
        rw [List.getElem?_append_right (by omega), hl] at hj
        simp at hj
        subst hj
        rw [if_pos rfl]
        exact hP
      · rw [List.getElem?_eq_none (by simp [hl]; omega)] at hj; cases hj
    · dsimp only
      rcases Nat.lt_or_ge j len with h | h
      · rw [if_neg (by omega), ← hx j h]
        have h1 : j * S + S ≤ len * S := by rw [← Nat.succ_mul]; exact Nat.mul_le_mul_right _ (by omega)
        rw [List.drop_append_of_le_length (by omega), List.take_append_of_le_length (by rw [List.length_drop]; omega)]
      · have : j = len := by omega
        subst this
        rw [if_pos rfl, List.drop_left' hxl]
        exact List.take_of_length_le (by omega)
    · dsimp only
      rcases Nat.lt_or_ge j len with h | h
      · rw [if_neg (by omega)]; exact hsz j h
      · rw [if_pos (by omega)]; exact hcs
theorem trod_rep {fuel : Nat} {cs : List Value} {y : DataW H × List MemPlace} (hf : DataW.trod enc Try.prog W 0 (fun _ => true) true fuel 27 cs = some y) :
    ∃ (r : RpA) (ca : Array Value), ca.toList = cs ∧ RpIs W r ca := by
  have c4 : Try.prog.cellsOf 27 = 4 := by kernel_rfl
  have q0 : Try.prog.cellsOf 5 = 1 := by kernel_rfl
  have q1 : Try.prog.cellsOf 25 = 1 := by kernel_rfl
  obtain ⟨ys, n0, rfl, -, hl, hyl, hff⟩ := DataW.trod_struct Try.underlying27 hf
  rw [c4] at hl
  obtain ⟨a0, a1, a2, a3, rfl⟩ : ∃ a0 a1 a2 a3, cs = [a0, a1, a2, a3] := by
    match cs, hl with
    | [a0, a1, a2, a3], _ => exact ⟨a0, a1, a2, a3, rfl⟩
  obtain ⟨y0, y1, y2, y3, rfl⟩ : ∃ y0 y1 y2 y3, ys = [y0, y1, y2, y3] := by
    match ys, hyl with
    | [y0, y1, y2, y3], _ => exact ⟨y0, y1, y2, y3, rfl⟩
  have t0 : DataW.trod enc Try.prog W 0 (fun _ => true) true n0 5 (([a0, a1, a2, a3].drop 0).take (Try.prog.cellsOf 5)) = some y0 := hff 0 _ rfl
  have t1 : DataW.trod enc Try.prog W 0 (fun _ => true) true n0 5 (([a0, a1, a2, a3].drop 1).take (Try.prog.cellsOf 5)) = some y1 := hff 1 _ rfl
  have t2 : DataW.trod enc Try.prog W 0 (fun _ => true) true n0 5 (([a0, a1, a2, a3].drop 2).take (Try.prog.cellsOf 5)) = some y2 := hff 2 _ rfl
  have t3 : DataW.trod enc Try.prog W 0 (fun _ => true) true n0 25 (([a0, a1, a2, a3].drop 3).take (Try.prog.cellsOf 25)) = some y3 := hff 3 _ rfl
  rw [q0] at t0 t1 t2
  rw [q1] at t3
  simp only [List.drop_zero, List.take_succ_cons, List.take_zero, List.drop_succ_cons] at t0 t1 t2 t3
  obtain ⟨f, e0, -, wf⟩ := DataW.trod_int Try.underlying5 t0
  obtain ⟨v, e1, -, wv⟩ := DataW.trod_int Try.underlying5 t1
  obtain ⟨z, e2, -, wz⟩ := DataW.trod_int Try.underlying5 t2
  obtain ⟨f, rfl, bf⟩ := u8_nat wf
  obtain ⟨v, rfl, bv⟩ := u8_nat wv
  obtain ⟨z, rfl, bz⟩ := u8_nat wz
  simp at e0 e1 e2
  subst e0 e1 e2
  obtain ⟨A, c, bs, rfl, hr, hle, -⟩ := bytes_of_trod Try.underlying25 Try.underlying5 (by kernel_rfl) t3 (fun _ => rfl)
  exact ⟨⟨f, v, z, bs⟩, #[.int .u8 (f : Int), .int .u8 (v : Int), .int .u8 (z : Int), .slice A bs.length c], rfl, A, c, rfl, hr, bf, bv, bz⟩

/-- A row of reports of few numbers that the machine reads. -/
def RowRp (W : World) (A : Option Addr) (l : List RpA) (xs : List Value) (css : Nat → Array Value) : Prop :=
  Reads W W.heap.size 4 A l.length xs ∧ (∀ (j : Nat) (x : RpA), l[j]? = some x → RpIs W x (css j)) ∧ ∀ j, j < l.length → (xs.drop (j * 4)).take 4 = (css j).toList

theorem open_reps {r : Reach} {base : Nat} {v : Value} {d : DataW H} {p : List MemPlace} (hval : Value.okWide Try.prog W r base 22 v) (h : DataW.Trod enc Try.prog W 0 (fun _ => true) true 22 v d p) {ts : List TypeId} {ds : List (DataW H)} {j : Nat}
    (_ : (DataW.weightsEach Try.prog ts ds).all (· ≤ reachBytes) = true) (_ : ts[j]? = some 22) (_ : ds[j]? = some d) :
    ∃ (A : Option Addr) (c : Nat) (l : List RpA) (xs : List Value) (css : Nat → Array Value), v = .slice A l.length c ∧ RowRp W A l xs css ∧ l.length ≤ c := by
  have c4 : Try.prog.cellsOf 27 = 4 := by kernel_rfl
  obtain ⟨a0, len0, cap0, rfl⟩ := okWide_slice Try.underlying22 hval
  obtain ⟨fuel, hf⟩ := h
  rcases DataW.trod_slice Try.underlying22 hf with ⟨h0, -⟩ | ⟨a, len, cap1, elems, rest, n', hnn, h1, hy4, -, hlc, -, hlen, hel, -, -⟩
  · simp [Value.cells] at h0
    obtain ⟨rfl, rfl, rfl⟩ := h0
    exact ⟨none, 0, [], [], fun _ => #[], rfl, ⟨⟨by simp, fun h => absurd h (by simp)⟩, by simp, by simp⟩, Nat.le_refl _⟩
  · simp [Value.cells] at h1
    obtain ⟨rfl, rfl, rfl⟩ := h1
    have each : ∀ i, i < len0 → ∃ (x : RpA) (cs : Array Value), RpIs W x cs ∧ cs.toList.length = 4 ∧ ∀ j u, cs.toList[j]? = some u → W.cell? (a.add (i * 4 + j)) = some u := by
      intro i hi2
      have h5 := hel i hi2
      rw [c4] at h5
      have hie : i < elems.length := by omega
      rw [List.getElem?_eq_getElem hie] at h5
      cases hc : W.cells? 0 (a.add (i * 4)) 4 with
      | none => rw [hc] at h5; cases h5
      | some cs' =>
        rw [hc] at h5
        obtain ⟨x, ca, hca, hx⟩ := trod_rep h5
        obtain ⟨-, hcl, hat⟩ := World.cells?_some hc
        refine ⟨x, ca, hx, by rw [hca]; exact hcl, fun j u hj => ?_⟩
        have hj9 : j < 4 := by
          have := (List.getElem?_eq_some_iff.1 hj).1
          rw [hca, hcl] at this
          exact this
        have := hat j hj9
        rw [add_of_add] at this
        rw [this, ← hca]
        exact hj
    obtain ⟨l, xs, css, hl, hr, hp, hx, -⟩ := rows_of (by decide) each
    subst hl
    exact ⟨some a, cap0, l, xs, css, rfl, ⟨hr, hp, hx⟩, by omega⟩
end
end Go.Proofs.Ytfmmabkekjchjaa
