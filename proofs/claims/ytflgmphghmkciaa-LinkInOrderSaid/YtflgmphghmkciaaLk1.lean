/- The link's memory: a colour for each block (0: it stays), rows that begin anywhere in their block, the link's own block and its open messages, rows of packets and of texts. -/
import Derived.Test.YtflgmphghmkciaaOpen
import Derived.Test.YtflgmphghmkciaaMore
import Derived.Test.YtflgmphghmkciaaGrow
set_option linter.unusedSimpArgs false
set_option linter.unusedVariables false
namespace Go.Proofs.Ytflgmphghmkciaa
open Go.RowKit
set_option maxRecDepth 100000

def Says (w : World) (v : Value) (e : Ending) (w' : World) : Prop := e = .returned v ∧ Below w.heap.size w w'
theorem lt_at {α : Type} {l : List α} {k : Nat} {x : α} (h : l[k]? = some x) : k < l.length := by
  rcases Nat.lt_or_ge k l.length with h' | h'
  · exact h'
  · rw [List.getElem?_eq_none h'] at h; cases h
theorem add_off (g o n : Nat) : (⟨g, o, none⟩ : Addr).add n = ⟨g, o + n, none⟩ := by unfold Addr.add; split <;> simp_all

/-! ### A row that begins anywhere in its block -/

def OwnO (w : World) (t : TypeId) (size : Nat) (A : Option Addr) (n c : Nat) (xs : List Value) : Prop :=
  xs.length = n * size ∧ ((A = none ∧ n = 0 ∧ c = 0) ∨ ∃ g o cur, A = some ⟨g, o, none⟩ ∧ Blk w g t cur ∧ n ≤ c ∧ c ≤ maxLen ∧ o + c * size ≤ cur.size ∧ (cur.toList.drop o).take (n * size) = xs)
section
variable {w w' : World} {t : TypeId} {size n c : Nat} {A : Option Addr} {xs : List Value}
theorem OwnO.ofOwn (h : Own w t size A n c xs) : OwnO w t size A n c xs := by
  refine ⟨h.1, ?_⟩
  rcases h.2 with h | ⟨g, cur, rfl, hb, h1, h2, h3, h4⟩
  · exact .inl h
  · exact .inr ⟨g, 0, cur, rfl, hb, h1, h2, by omega, by rw [List.drop_zero]; exact h4⟩
theorem OwnO.none_ : OwnO w t size none 0 0 [] := ⟨by simp, .inl ⟨rfl, rfl, rfl⟩⟩
theorem OwnO.len (h : OwnO w t size A n c xs) : xs.length = n * size := h.1
theorem OwnO.le_cap (h : OwnO w t size A n c xs) : n ≤ c := by
  rcases h.2 with ⟨_, rfl, rfl⟩ | ⟨_, _, _, _, _, h, _⟩
  · exact Nat.le_refl _
  · exact h
theorem OwnO.cap_le (h : OwnO w t size A n c xs) : c ≤ maxLen := by
  rcases h.2 with ⟨_, rfl, rfl⟩ | ⟨_, _, _, _, _, _, h, _⟩
  · exact Nat.zero_le _
  · exact h
theorem OwnO.lt {g : Nat} (h : OwnO w t size A n c xs) (hg : bOf A = some g) : g < w.heap.size := by
  rcases h.2 with ⟨rfl, _⟩ | ⟨g', o, cur, rfl, hb, _⟩
  · cases hg
  · cases hg; exact hb.lt
theorem OwnO.upd {S : Nat → Prop} (h : OwnO w t size A n c xs) (hu : Upd S w w') (hs : ∀ g, bOf A = some g → ¬ S g) : OwnO w' t size A n c xs := by
  refine ⟨h.1, ?_⟩
  rcases h.2 with h | ⟨g, o, cur, rfl, hb, r⟩
  · exact .inl h
  · exact .inr ⟨g, o, cur, rfl, hb.upd hu (hs g rfl), r⟩
theorem OwnO.below {B : Nat} (h : OwnO w t size A n c xs) (hb : Below B w w') (hB : w.heap.size ≤ B) : OwnO w' t size A n c xs :=
  h.upd (Upd.of_below hb) fun g hg hx => by have := h.lt hg; omega
theorem OwnO.ne_blk {g : Nat} {t' : TypeId} {cs : Array Value} (h : OwnO w t size A n c xs) (hb : Blk w g t' cs) (hne : t ≠ t') : bOf A ≠ some g := by
  rcases h.2 with ⟨rfl, _⟩ | ⟨g', o, cur, rfl, hb', _⟩
  · simp [bOf]
  · intro e
    exact Blk.ne_ hb' hb hne (by simpa [bOf] using e)
theorem OwnO.cells (h : OwnO w t size A n c xs) (hn : 0 < n) : ∃ g o, A = some ⟨g, o, none⟩ ∧ g < w.heap.size ∧ ∀ j, j < n * size → w.cell? ⟨g, o + j, none⟩ = xs[j]? ∧ w.frozen? ⟨g, o + j, none⟩ = false := by
  rcases h.2 with ⟨_, h0, _⟩ | ⟨g, o, cur, rfl, hb, h1, h2, h3, h4⟩
  · omega
  · refine ⟨g, o, rfl, hb.lt, fun j hj => ⟨?_, hb.frozen _⟩⟩
    rw [hb.cell, ← h4, List.getElem?_take, if_pos hj, List.getElem?_drop]
    simp
theorem OwnO.reads (h : OwnO w t size A n c xs) : Reads w w.heap.size size A n xs := by
  refine ⟨h.1, fun hn => ?_⟩
  obtain ⟨g, o, rfl, hg, hc⟩ := h.cells hn
  refine ⟨_, rfl, hg, fun j u hu => ?_⟩
  rw [add_off, (hc j (by have := h.1; have := lt_at hu; omega)).1, hu]
/-- 's[k:]'. -/
theorem OwnO.cut (h : OwnO w t size A n c xs) {k : Nat} (hk : k ≤ n) :
    OwnO w t size (if c = k then A else A.map (·.add (k * size))) (n - k) (c - k) (xs.drop (k * size)) := by
  have hks : k * size ≤ n * size := Nat.mul_le_mul_right _ hk
  refine ⟨by rw [List.length_drop, h.1, Nat.sub_mul], ?_⟩
  rcases h.2 with ⟨rfl, rfl, rfl⟩ | ⟨g, o, cur, rfl, hb, h1, h2, h3, h4⟩
  · refine .inl ⟨by split <;> rfl, by omega, by omega⟩
  · have hnc : n * size ≤ c * size := Nat.mul_le_mul_right _ h1
    split
    · rename_i e
      have hn : n = k := by omega
      refine .inr ⟨g, o, cur, rfl, hb, by omega, by omega, ?_, ?_⟩
      · rw [e, Nat.sub_self, Nat.zero_mul]; omega
      · rw [hn, Nat.sub_self, Nat.zero_mul, List.take_zero]
        symm
        rw [List.drop_eq_nil_iff, h.1, hn]
        exact Nat.le_refl _
    · refine .inr ⟨g, o + k * size, cur, by simp [add_off], hb, by omega, by omega, ?_, ?_⟩
      · rw [Nat.sub_mul]; omega
      · rw [← h4, List.drop_take, List.drop_drop, Nat.sub_mul]
/-- A cell set. -/
theorem OwnO.set_ {g o : Nat} (h : OwnO w t size (some ⟨g, o, none⟩) n c xs) (j : Nat) (hj : j < n * size) (u : Value) : OwnO (w.setCell ⟨g, o + j, none⟩ u) t size (some ⟨g, o, none⟩) n c (xs.set j u) := by
  refine ⟨by rw [List.length_set]; exact h.1, ?_⟩
  rcases h.2 with ⟨e, _⟩ | ⟨g', o', cur, e, hb, h1, h2, h3, h4⟩
  · cases e
  · injection e with e
    injection e with e1 e2
    subst e1 e2
    refine .inr ⟨g, o, _, rfl, hb.set_ (o + j) u, h1, h2, by simpa using h3, ?_⟩
    rw [Array.toList_setIfInBounds, List.drop_set, if_neg (by omega), Nat.add_sub_cancel_left, List.take_set, h4]
end

section
variable {P : Program} {w : World}
/-- 'append' onto such a row: whatever the source. -/
theorem run_append_off (t tx ty e : TypeId) (i : TypeInfo) (z : Value) (size bytes : Nat) (ht : P.underlying t = some (.slice e)) (hi : P.info? e = some i) (hz : i.zero = some z)
    (hsize : i.size = size) (hby : i.bytes = bytes) (hzs : z.cells.size = size) {A : Option Addr} {n c : Nat} {xs : List Value} (hown : OwnO w e size A n c xs)
    {x : Value} {m : Nat} {news : List Value} (hs : Src P size tx x m news w) (h63 : n + m ≤ maxLen) (hbytes : (n + m) * bytes ≤ 140737488355328) :
    ∃ A' c' w', (Builtin.append_ #[t, tx] ty #[.slice A n c, x]).run P w = .ok (.slice A' (n + m) c') w' ∧ OwnO w' e size A' (n + m) c' (xs ++ news) ∧ w.grownBy w' (bOf A) ∧
      (bOf A' = bOf A ∨ bOf A' = some w.heap.size) := by
  subst hsize
  subst hby
  have hsmall : n + m ≤ 9223372036854775807 := by simp only [maxLen] at h63; omega
  have hlen : (xs ++ news).length = (n + m) * i.size := by rw [List.length_append, hown.1, hs.newsLen, Nat.add_mul]
  by_cases hroom : n + m ≤ c
  · rcases hown.2 with ⟨rfl, rfl, rfl⟩ | ⟨g, o, cur, rfl, hg, hnc, hcm, hcs, htake⟩
    · have hm : m = 0 := by omega
      subst hm
      have hn : news = [] := List.eq_nil_of_length_eq_zero (by simpa using hs.newsLen)
      subst hn
      refine ⟨none, 0, w, ?_, by simpa using hown, World.grownBy.refl w _, .inl rfl⟩
      rcases hs.kind with ⟨e', hk⟩ | hk <;>
        simp [Builtin.append_, run_underlying ht, run_underlying hk, sizeOf, typeInfo, hi, hs.len, hs.cells]
    · have hfit0 : n * i.size + news.length ≤ c * i.size := by rw [hs.newsLen, ← Nat.add_mul]; exact Nat.mul_le_mul_right _ hroom
      have hfit : o + n * i.size + news.length ≤ cur.size := by omega
      have hr := run_append_room_src (P := P) w t tx ty e i ht hi g o n c x m news hs hroom
        (fun j hj => by rw [hg.cell]; simp; omega) (fun j hj => hg.frozen _)
      obtain ⟨cur', q1, q2, q3⟩ := setCells_eq_setRow g (o + n * i.size) e news cur w hg hfit
      obtain ⟨s1, s2, s3, s4⟩ := setCells_same g (o + n * i.size) news w
      refine ⟨_, _, _, hr, ⟨hlen, .inr ⟨g, o, cur', rfl, q1, hroom, hcm, by omega, ?_⟩⟩, ⟨s1, s2, s3, by omega, fun k _ hk => setCells_other g _ k (fun e => hk (by simp [bOf, e])) news w⟩, .inl rfl⟩
      have hcl : cur.toList.length = cur.size := by simp
      have htl : (cur.toList.take (o + n * i.size)).drop o = xs := by rw [← htake, List.drop_take, Nat.add_sub_cancel_left]
      have hto : o ≤ (cur.toList.take (o + n * i.size)).length := by rw [List.length_take]; omega
      rw [q3, show (n + m) * i.size = n * i.size + news.length from by rw [hs.newsLen, Nat.add_mul], List.append_assoc, List.drop_append_of_le_length hto, htl, ← List.append_assoc]
      exact List.take_left' (by rw [List.length_append, hown.1])
  · have hfc : (Builtin.firstCells i.size n (.slice A n c)).run P w.drew = .ok xs.toArray w.drew := by
      rcases hown.2 with ⟨rfl, rfl, rfl⟩ | ⟨g, o, cur, rfl, hg, hnc, hcm, hcs, htake⟩
      · have hx : xs = [] := List.eq_nil_of_length_eq_zero (by simpa using hown.1)
        subst hx
        simp [Builtin.firstCells]
      · refine run_firstCells_some (P := P) w.drew i.size n ⟨g, o, none⟩ n c xs hown.1 ?_
        rcases Nat.eq_zero_or_pos n with h0 | h0
        · subst h0
          have hx : xs = [] := List.eq_nil_of_length_eq_zero (by simpa using hown.1)
          subst hx
          simp
        · obtain ⟨ad, e1, _, hc⟩ := hown.reads.2 h0
          injection e1 with e1
          subst e1
          exact hc
    have hge := grownCap_ge w (n + m) c e
    have hcm := grownCap_le_maxLen w (n + m) c e h63
    have hr := run_append_grow_src (P := P) w t tx ty e i z ht hi hz A n c xs hfc x m news hs (by omega) (by omega) (growslice_fits (by omega) hbytes)
    refine ⟨_, _, _, hr, ⟨hlen, .inr ⟨w.heap.size, 0, _, rfl, heap_alloc_new w.drew _, hge, hcm, ?_, ?_⟩⟩, ⟨rfl, rfl, rfl, by simp, fun k hk _ => Below.heap_alloc w.drew _ k hk⟩, .inr rfl⟩
    · simp only [Array.size_append, List.size_toArray, size_zeroCells, hzs, hlen, ← Nat.add_mul, Nat.zero_add]
      exact Nat.mul_le_mul_right _ (by omega)
    · simp only [Array.toList_append, List.drop_zero]
      rw [← hlen]
      exact List.take_left
theorem wp_append_off {o : Oper} {a : Act} {K : Act → World → Prop} {Q : Exit → Act → World → Prop} (s x : Operand) (t tx : TypeId)
    (ho : o.op = .call { callee := .builtin .append, args := #[s, x], argTypes := #[t, tx] })
    (e : TypeId) (i : TypeInfo) (z : Value) (size bytes : Nat) (ht : P.underlying t = some (.slice e)) (hi : P.info? e = some i) (hz : i.zero = some z)
    (hsize : i.size = size) (hby : i.bytes = bytes) (hzs : z.cells.size = size) {A : Option Addr} {n c : Nat} {xs : List Value} (hs : a.eval s = .slice A n c) (hown : OwnO w e size A n c xs)
    {y : Value} {m : Nat} {news : List Value} (hx : a.eval x = y) (hsrc : Src P size tx y m news w) (h63 : n + m ≤ maxLen) (hbytes : (n + m) * bytes ≤ 140737488355328)
    (h : ∀ A' c' w', OwnO w' e size A' (n + m) c' (xs ++ news) → w.grownBy w' (bOf A) → (bOf A' = bOf A ∨ bOf A' = some w.heap.size) → K (a.put o.dst (.slice A' (n + m) c')) w') : o.wp P a w K Q := by
  obtain ⟨A', c', w', hrun, h2, h3, h4⟩ := run_append_off (P := P) (w := w) t tx o.type e i z size bytes ht hi hz hsize hby hzs hown hsrc h63 hbytes
  unfold Oper.wp execOp
  simp only [ho, resolve, invoke, builtin, Sem.run_bind, Sem.run_pure, Result.andThen_ok, List.map_toArray, List.map_cons, List.map_nil, hs, hx, hrun]
  exact h A' c' w' h2 h3 h4
end

/-! ### Colours -/

def Cx (w : World) (col : Nat → Nat) : Prop := ∀ y, w.heap.size ≤ y → col y = 0
/-- Only blocks of colour k, and new ones, have turned. -/
structure Stp (col : Nat → Nat) (k : Nat) (w : World) (col' : Nat → Nat) (w' : World) : Prop where
  ext : ∀ y, y < w.heap.size → col' y = col y
  upd : Upd (fun y => col y = k) w w'
  cx : Cx w' col'
  nw : ∀ y, col' y = 0 ∨ col' y = col y ∨ col' y = k
/-- A base: whatever lies below it stays. -/
structure Bas (b : Nat) (w0 w : World) (col : Nat → Nat) : Prop where
  hb : Below b w0 w
  le : b ≤ w.heap.size
  c0 : ∀ y, y < b → col y = 0
section
variable {col col' col'' : Nat → Nat} {k : Nat} {w w' w'' : World}
theorem Cx.below (h : Cx w col) (hb : Below w.heap.size w w') : Cx w' col := fun y hy => h y (Nat.le_trans hb.size hy)
theorem Stp.refl (h : Cx w col) : Stp col k w col w := ⟨fun _ _ => rfl, Upd.refl _ _, h, fun _ => .inr (.inl rfl)⟩
theorem Stp.below (h : Cx w col) (hb : Below w.heap.size w w') : Stp col k w col w' := ⟨fun _ _ => rfl, Upd.of_below_size hb, h.below hb, fun _ => .inr (.inl rfl)⟩
theorem Stp.trans (h : Stp col k w col' w') (h' : Stp col' k w' col'' w'') : Stp col k w col'' w'' :=
  ⟨fun y hy => (h'.ext y (Nat.lt_of_lt_of_le hy h.upd.size)).trans (h.ext y hy), h.upd.trans h'.upd (fun y hy e => by rw [← h.ext y hy]; exact e), h'.cx, fun y => by
    rcases h'.nw y with e | e | e
    · exact .inl e
    · rw [e]; exact h.nw y
    · exact .inr (.inr e)⟩
theorem Stp.cell (h : Cx w col) {p : Addr} (hp : col p.block = k) (u : Value) : Stp col k w col (w.setCell p u) :=
  ⟨fun _ _ => rfl, (Upd.refl _ w).setCell (fun _ => hp) u, fun y hy => h y (by have := hy; simp [World.setCell] at this; exact this), fun _ => .inr (.inl rfl)⟩
/-- An append: a new row, if any, has the colour. -/
theorem Stp.grown {A A' : Option Addr} (h : Cx w col) (hg : w.grownBy w' (bOf A)) (hA : ∀ y, bOf A = some y → col y = k) (hAl : ∀ y, bOf A' = some y → y < w'.heap.size) (hat : bOf A' = bOf A ∨ bOf A' = some w.heap.size) :
    ∃ col', Stp col k w col' w' ∧ ∀ y, bOf A' = some y → col' y = k := by
  have hu : Upd (fun y => col y = k) w w' := (Upd.refl _ w).grown hg (fun y e _ => hA y e)
  have hsz := hu.size
  rcases hat with e | e
  · exact ⟨col, ⟨fun _ _ => rfl, hu, fun y hy => h y (by omega), fun _ => .inr (.inl rfl)⟩, fun y hy => hA y (by rw [← e]; exact hy)⟩
  · have hl := hAl _ e
    refine ⟨fun y => if y = w.heap.size then k else col y, ⟨fun y hy => ?_, hu, fun y hy => ?_, fun y => ?_⟩, fun y hy => ?_⟩
    · rw [if_neg (by omega)]
    · rw [if_neg (by omega)]; exact h y (by omega)
    · split <;> simp
    · rw [e] at hy; exact if_pos (by injection hy with hy; exact hy.symm)
theorem Stp.fresh (h : Cx w col) (hb : Below w.heap.size w w') {y : Nat} (hy : w.heap.size ≤ y) (hyl : y < w'.heap.size) : Stp col k w (fun x => if x = y then k else col x) w' :=
  ⟨fun x hx => by rw [if_neg (by omega)], Upd.of_below_size hb, fun x hx => by rw [if_neg (by omega)]; exact h x (by have := hb.size; omega), fun x => by split <;> simp⟩
theorem Bas.go {b : Nat} {w0 : World} (h : Bas b w0 w col) (hs : Stp col k w col' w') (hk : k ≠ 0) : Bas b w0 w' col' :=
  ⟨h.hb.trans (hs.upd.below h.le (fun y hy e => by have := h.c0 y hy; omega)), Nat.le_trans h.le hs.upd.size, fun y hy => (hs.ext y (Nat.lt_of_lt_of_le hy h.le)).trans (h.c0 y hy)⟩
theorem Bas.below {b : Nat} {w0 : World} (h : Bas b w0 w col) (hb : Below w.heap.size w w') : Bas b w0 w' col :=
  ⟨h.hb.trans (hb.mono h.le), Nat.le_trans h.le hb.size, h.c0⟩
end

/-! ### Bytes that stay -/

def FrB (col : Nat → Nat) (w : World) (B : Option Addr) (b : List UInt8) : Prop := Reads w w.heap.size 1 B b.length (bys b) ∧ (0 < b.length → ∀ y, bOf B = some y → col y = 0)
theorem FrB.keep {col col' : Nat → Nat} {w w' : World} {B : Option Addr} {b : List UInt8} {k : Nat} (h : FrB col w B b) (hs : Stp col k w col' w') (hk : k ≠ 0) : FrB col' w' B b := by
  have hl : ∀ y, 0 < b.length → bOf B = some y → y < w.heap.size := fun y hb hy => by
    obtain ⟨ad, rfl, hlt, -⟩ := h.1.2 hb
    cases hy; exact hlt
  refine ⟨⟨h.1.1, fun hn => ?_⟩, fun hn y hy => ?_⟩
  · obtain ⟨ad, rfl, hlt, hc⟩ := h.1.2 hn
    refine ⟨ad, rfl, Nat.lt_of_lt_of_le hlt hs.upd.size, fun j u hu => ?_⟩
    rw [← hc j u hu]
    exact World.cell?_of_block (by rw [block_of_add]; exact hs.upd.block _ hlt (fun e => by have := h.2 hn _ rfl; omega))
  · rw [hs.ext y (hl y hn hy)]; exact h.2 hn y hy
theorem FrB.below {col : Nat → Nat} {w w' : World} {B : Option Addr} {b : List UInt8} (h : FrB col w B b) (hc : Cx w col) (hb : Below w.heap.size w w') : FrB col w' B b := h.keep (Stp.below (k := 1) hc hb) (by decide)
theorem FrB.own {col : Nat → Nat} {w : World} {B : Option Addr} {b : List UInt8} {c : Nat} (h : Own w 5 1 B b.length c (bys b)) (hn : ∀ y, bOf B = some y → col y = 0) : FrB col w B b := ⟨h.reads_, fun _ => hn⟩
/-- Bytes below the base. -/
theorem FrB.base {b : Nat} {w0 w : World} {col : Nat → Nat} {B : Option Addr} {bs : List UInt8} (hB : Bas b w0 w col) (hw : b = w0.heap.size) (h : Reads w0 w0.heap.size 1 B bs.length (bys bs)) : FrB col w B bs := by
  subst hw
  refine ⟨(h.below hB.hb).more hB.le, fun hn y hy => ?_⟩
  obtain ⟨ad, rfl, hlt, -⟩ := h.2 hn
  cases hy; exact hB.c0 _ hlt

/-! ### The link -/

theorem info_msg : (Try.prog.info? 47).map (fun i => (i.zero, i.size, i.bytes)) = some (some (.agg #[.slice none 0 0, .bool false]), 2, 32) := by kernel_rfl
theorem info_row : (Try.prog.info? 29).map (fun i => (i.zero, i.size, i.bytes)) = some (some (.slice none 0 0), 1, 24) := by kernel_rfl
theorem info_str : (Try.prog.info? 9).map (fun i => (i.zero, i.size, i.bytes)) = some (some (.string ByteArray.empty), 1, 16) := by kernel_rfl

structure LkD where
  own : Nat
  other : Nat
  l : List (List UInt8 × Bool)
  first : Nat
  came : Nat
  heard : Bool
  ticks : Nat
def LkD.cells (d : LkD) (A : Option Addr) (c : Nat) : Array Value := #[.int .u64 (d.own : Int), .int .u64 (d.other : Int), .slice A d.l.length c, .int .u64 (d.first : Int), .int .u64 (d.came : Int), .bool d.heard, .int .i64 (d.ticks : Int)]
structure LkOk (d : LkD) : Prop where
  own : d.own < 1000000
  other : d.other < 1000000
  l : d.l.length ≤ 8
  b : ∀ m ∈ d.l, m.1.length ≤ 60000
  first : d.first < 1000000
  came : d.came < 1000000
  ticks : d.ticks < 3
def MsgAt (col : Nat → Nat) (w : World) (xs : List Value) (j : Nat) (m : List UInt8 × Bool) : Prop := ∃ B cB, xs[j * 2]? = some (Value.slice B m.1.length cB) ∧ xs[j * 2 + 1]? = some (Value.bool m.2) ∧ FrB col w B m.1
structure LinkX (col : Nat → Nat) (k : Nat) (w : World) (g : Nat) (d : LkD) (A : Option Addr) (c : Nat) (xs : List Value) : Prop where
  blk : Blk w g 44 (d.cells A c)
  ho : OwnO w 47 2 A d.l.length c xs
  hx : ∀ (j : Nat) (m : List UInt8 × Bool), d.l[j]? = some m → MsgAt col w xs j m
  cg : col g = k
  cA : ∀ y, bOf A = some y → col y = k
  k0 : k ≠ 0
def LinkC (col : Nat → Nat) (k : Nat) (w : World) (g : Nat) (d : LkD) : Prop := ∃ A c xs, LinkX col k w g d A c xs
theorem MsgAt.keep {col col' : Nat → Nat} {w w' : World} {xs : List Value} {j k : Nat} {m : List UInt8 × Bool} (h : MsgAt col w xs j m) (hs : Stp col k w col' w') (hk : k ≠ 0) : MsgAt col' w' xs j m := by
  obtain ⟨B, cB, h1, h2, h3⟩ := h
  exact ⟨B, cB, h1, h2, h3.keep hs hk⟩
section
variable {col col' : Nat → Nat} {k j : Nat} {w w' : World} {g : Nat} {d : LkD} {A : Option Addr} {c : Nat} {xs : List Value}
theorem LinkX.keep (h : LinkX col k w g d A c xs) (hs : Stp col j w col' w') (hj : j ≠ k) (hj0 : j ≠ 0) : LinkX col' k w' g d A c xs :=
  ⟨h.blk.upd hs.upd (fun e => by have := h.cg; omega), h.ho.upd hs.upd (fun y hy e => by have := h.cA y hy; omega), fun i m hi => (h.hx i m hi).keep hs hj0, (hs.ext g h.blk.lt).trans h.cg, fun y hy => (hs.ext y (h.ho.lt hy)).trans (h.cA y hy), h.k0⟩
theorem LinkC.keep (h : LinkC col k w g d) (hs : Stp col j w col' w') (hj : j ≠ k) (hj0 : j ≠ 0) : LinkC col' k w' g d := by
  obtain ⟨A, c, xs, h⟩ := h
  exact ⟨A, c, xs, h.keep hs hj hj0⟩
theorem LinkX.below (h : LinkX col k w g d A c xs) (hc : Cx w col) (hb : Below w.heap.size w w') : LinkX col k w' g d A c xs :=
  h.keep (Stp.below (k := k + 1) hc hb) (by omega) (by omega)
theorem LinkC.below (h : LinkC col k w g d) (hc : Cx w col) (hb : Below w.heap.size w w') : LinkC col k w' g d :=
  h.keep (Stp.below (k := k + 1) hc hb) (by omega) (by omega)
theorem LinkX.neA (h : LinkX col k w g d A c xs) : ∀ y, bOf A = some y → y ≠ g := fun y hy e => by
  subst e
  exact h.ho.ne_blk h.blk (by decide) hy
theorem LinkX.lt (h : LinkX col k w g d A c xs) : g < w.heap.size := h.blk.lt
/-- Another plain state over the same messages: cells of the block set, told by the block's new cells. -/
theorem LinkX.turn {d' : LkD} (h : LinkX col k w g d A c xs) (hu : Upd (fun y => y = g) w w') (hc : Cx w' col) (hb : Blk w' g 44 (d'.cells A c)) (hl : d'.l = d.l) : LinkX col k w' g d' A c xs ∧ Stp col k w col w' := by
  have hs : Stp col k w col w' := ⟨fun _ _ => rfl, hu.mono (fun y _ e => by rw [e]; exact h.cg), hc, fun _ => .inr (.inl rfl)⟩
  refine ⟨⟨hb, by rw [hl]; exact h.ho.upd hu (fun y hy e => h.neA y hy e), fun i m hi => by rw [hl] at hi; exact (h.hx i m hi).keep hs h.k0, h.cg, h.cA, h.k0⟩, hs⟩
end
/-- A new link. -/
theorem link_new {col : Nat → Nat} {w w' : World} {g k life : Nat} (hc : Cx w col) (hb : Below w.heap.size w w') (hg : w.heap.size ≤ g) (hx : Blk w' g 44 #[.int .u64 (life : Int), .int .u64 0, .slice none 0 0, .int .u64 1, .int .u64 0, .bool false, .int .i64 0]) (hk : k ≠ 0) :
    ∃ col', Stp col k w col' w' ∧ LinkC col' k w' g ⟨life, 0, [], 1, 0, false, 0⟩ :=
  ⟨_, Stp.fresh hc hb hg hx.lt, none, 0, [], hx, OwnO.none_, by simp, by simp, by simp [bOf], hk⟩

/-! ### Rows of packets, of texts -/

def bsv (b : List UInt8) : Value := .string (bstr b)
structure PksX (col : Nat → Nat) (k : Nat) (w : World) (A : Option Addr) (c : Nat) (L : List (List UInt8)) (xs : List Value) : Prop where
  ho : Own w 29 1 A L.length c xs
  hx : ∀ (j : Nat) (b : List UInt8), L[j]? = some b → ∃ B cB, xs[j]? = some (Value.slice B b.length cB) ∧ b.length ≤ cB ∧ FrB col w B b
  cA : ∀ y, bOf A = some y → col y = k
def PksC (col : Nat → Nat) (k : Nat) (w : World) (A : Option Addr) (c : Nat) (L : List (List UInt8)) : Prop := ∃ xs, PksX col k w A c L xs
structure StrC (col : Nat → Nat) (k : Nat) (w : World) (A : Option Addr) (c : Nat) (L : List (List UInt8)) : Prop where
  ho : Own w 9 1 A L.length c (L.map bsv)
  cA : ∀ y, bOf A = some y → col y = k
section
variable {col col' : Nat → Nat} {k j : Nat} {w w' : World} {A : Option Addr} {c : Nat} {L : List (List UInt8)} {xs : List Value}
theorem PksX.keep (h : PksX col k w A c L xs) (hs : Stp col j w col' w') (hj : j ≠ k) (hj0 : j ≠ 0) : PksX col' k w' A c L xs :=
  ⟨h.ho.upd hs.upd (fun y hy e => by have := h.cA y hy; omega), fun i b hi => by
    obtain ⟨B, cB, h1, h2, h3⟩ := h.hx i b hi
    exact ⟨B, cB, h1, h2, h3.keep hs hj0⟩, fun y hy => (hs.ext y (h.ho.lt hy)).trans (h.cA y hy)⟩
theorem PksC.keep (h : PksC col k w A c L) (hs : Stp col j w col' w') (hj : j ≠ k) (hj0 : j ≠ 0) : PksC col' k w' A c L := by
  obtain ⟨xs, h⟩ := h
  exact ⟨xs, h.keep hs hj hj0⟩
theorem PksC.below (h : PksC col k w A c L) (hc : Cx w col) (hb : Below w.heap.size w w') : PksC col k w' A c L :=
  h.keep (Stp.below (k := k + 1) hc hb) (by omega) (by omega)
theorem StrC.keep (h : StrC col k w A c L) (hs : Stp col j w col' w') (hj : j ≠ k) (hj0 : j ≠ 0) : StrC col' k w' A c L :=
  ⟨h.ho.upd hs.upd (fun y hy e => by have := h.cA y hy; omega), fun y hy => (hs.ext y (h.ho.lt hy)).trans (h.cA y hy)⟩
theorem StrC.below (h : StrC col k w A c L) (hc : Cx w col) (hb : Below w.heap.size w w') : StrC col k w' A c L :=
  h.keep (Stp.below (k := k + 1) hc hb) (by omega) (by omega)
theorem PksC.none_ : PksC col k w none 0 [] := ⟨[], Own.none_, by simp, by simp [bOf]⟩
theorem StrC.none_ : StrC col k w none 0 [] := ⟨Own.none_, by simp [bOf]⟩
theorem PksX.one (h : PksX col k w A c L xs) : ∀ u ∈ xs, u.oneCell' = true := fun u hu => by
  obtain ⟨q, hq⟩ := List.getElem?_of_mem hu
  have hql := lt_at hq
  have hl := h.ho.len
  obtain ⟨B, cB, h1, -⟩ := h.hx q L[q] (List.getElem?_eq_getElem (by omega))
  rw [h1] at hq
  cases hq
  rfl
theorem bsv_one (L : List (List UInt8)) : ∀ u ∈ L.map bsv, u.oneCell' = true := fun u hu => by
  obtain ⟨b, -, rfl⟩ := List.mem_map.1 hu
  rfl
/-- A packet of the row. -/
theorem PksX.cell (h : PksX col k w A c L xs) {i : Nat} {b : List UInt8} (hi : L[i]? = some b) : ∃ g B cB, A = some ⟨g, 0, none⟩ ∧ w.cell? ⟨g, i, none⟩ = some (.slice B b.length cB) ∧ b.length ≤ cB ∧ FrB col w B b := by
  have hil := lt_at hi
  obtain ⟨B, cB, h1, h2, h3⟩ := h.hx i b hi
  obtain ⟨g, cur, rfl, hb, hc, -⟩ := h.ho.open_ (by omega)
  exact ⟨g, B, cB, rfl, by rw [hb.cell, hc i hil, h1], h2, h3⟩
/-- Packets behind, as an append leaves the row. -/
theorem PksX.push (hk : k ≠ 0) {A' : Option Addr} {c' : Nat} {L' : List (List UInt8)} {xs' : List Value} (h : PksX col k w A c L xs) (hc : Cx w col) (ho : Own w' 29 1 A' (L.length + L'.length) c' (xs ++ xs')) (hg : w.grownBy w' (bOf A)) (hat : bOf A' = bOf A ∨ bOf A' = some w.heap.size)
    (hl' : xs'.length = L'.length) (hx' : ∀ (j : Nat) (b : List UInt8), L'[j]? = some b → ∃ B cB, xs'[j]? = some (Value.slice B b.length cB) ∧ b.length ≤ cB ∧ FrB col w B b) :
    ∃ col', Stp col k w col' w' ∧ PksX col' k w' A' c' (L ++ L') (xs ++ xs') := by
  obtain ⟨col', hs, hA'⟩ := Stp.grown hc hg h.cA (fun y hy => ho.lt hy) hat
  refine ⟨col', hs, by rw [List.length_append]; exact ho, fun j b hj => ?_, hA'⟩
  have hlx := h.ho.len
  rcases Nat.lt_or_ge j L.length with hlt | hge
  · rw [List.getElem?_append_left hlt] at hj
    rw [List.getElem?_append_left (by omega)]
    obtain ⟨B, cB, h1, h2, h3⟩ := h.hx j b hj
    exact ⟨B, cB, h1, h2, h3.keep hs hk⟩
  · rw [List.getElem?_append_right hge] at hj
    rw [List.getElem?_append_right (by omega), hlx, Nat.mul_one]
    obtain ⟨B, cB, h1, h2, h3⟩ := hx' _ b hj
    exact ⟨B, cB, h1, h2, h3.keep hs hk⟩
theorem StrC.push {A' : Option Addr} {c' : Nat} {b : List UInt8} (h : StrC col k w A c L) (hc : Cx w col) (ho : Own w' 9 1 A' (L.length + 1) c' (L.map bsv ++ [bsv b])) (hg : w.grownBy w' (bOf A)) (hat : bOf A' = bOf A ∨ bOf A' = some w.heap.size) :
    ∃ col', Stp col k w col' w' ∧ StrC col' k w' A' c' (L ++ [b]) := by
  obtain ⟨col', hs, hA'⟩ := Stp.grown hc hg h.cA (fun y hy => ho.lt hy) hat
  exact ⟨col', hs, by rw [List.length_append, List.map_append]; exact ho, hA'⟩
end

/-! ### Colour 7, for a row that is being filled: away with it -/

def wash (col : Nat → Nat) (y : Nat) : Nat := if col y = 7 then 0 else col y
theorem wash_eq {col : Nat → Nat} {y k : Nat} (h : col y = k) (hk : k ≠ 7) : wash col y = k := by unfold wash; rw [if_neg (by omega), h]
theorem wash_seven {col : Nat → Nat} {y : Nat} (h : col y = 7) : wash col y = 0 := by unfold wash; rw [if_pos h]
theorem wash_no (col : Nat → Nat) (y : Nat) : wash col y ≠ 7 := by unfold wash; split <;> omega
section
variable {col : Nat → Nat} {k : Nat} {w : World}
theorem FrB.wash {B : Option Addr} {b : List UInt8} (h : FrB col w B b) : FrB (wash col) w B b := ⟨h.1, fun hn y hy => wash_eq (h.2 hn y hy) (by decide)⟩
theorem LinkX.wash {g : Nat} {d : LkD} {A : Option Addr} {c : Nat} {xs : List Value} (h : LinkX col k w g d A c xs) (hk : k ≠ 7) : LinkX (wash col) k w g d A c xs :=
  ⟨h.blk, h.ho, fun j m hj => by
    obtain ⟨B, cB, h1, h2, h3⟩ := h.hx j m hj
    exact ⟨B, cB, h1, h2, h3.wash⟩, wash_eq h.cg hk, fun y hy => wash_eq (h.cA y hy) hk, h.k0⟩
theorem PksX.wash7 {A : Option Addr} {c : Nat} {L : List (List UInt8)} {xs : List Value} (h : PksX col 7 w A c L xs) : PksX (wash col) 0 w A c L xs :=
  ⟨h.ho, fun j m hj => by
    obtain ⟨B, cB, h1, h2, h3⟩ := h.hx j m hj
    exact ⟨B, cB, h1, h2, h3.wash⟩, fun y hy => wash_seven (h.cA y hy)⟩
end
end Go.Proofs.Ytflgmphghmkciaa
