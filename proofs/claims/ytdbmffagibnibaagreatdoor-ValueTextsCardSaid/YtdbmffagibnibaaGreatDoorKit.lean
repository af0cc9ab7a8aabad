/-
  Words for memory: slices that read as lists, blocks known whole, rows that an object owns, frames; append and the conversions of bytes over them. No program is named here.
-/
import Derived.WalkKit
import Derived.WalkSpells
import Derived.WalkLawsBesides
import Derived.Deep.AppendLies
import Derived.Deep.AppendSrc
import Derived.Deep.Draws
import Derived.Maps.AppendAt
import Derived.Lib.Hide
namespace Go.Proofs.YtdbmffagibnibaaGreatDoor
open Go.RowKit

theorem block_of_add (a : Addr) (n : Nat) : (a.add n).block = a.block := by unfold Addr.add; split <;> rfl
theorem add_of_add (a : Addr) (i j : Nat) : (a.add i).add j = a.add (i + j) := by
  unfold Addr.add
  by_cases hi : i = 0 <;> by_cases hj : j = 0 <;> simp [hi, hj, Nat.add_assoc]

/-- a cell behind the first of an element, as the walk spells it -/
theorem add_pos (a : Addr) (m j : Nat) : a.add (m + (j + 1)) = ⟨(a.add m).block, (a.add m).off + (j + 1), none⟩ := by
  rw [← add_of_add]
  generalize a.add m = b
  unfold Addr.add
  simp

/-! ### Frames: only the blocks of S, and new ones, have turned -/

structure Upd (S : Nat → Prop) (w w' : World) : Prop where
  os : w'.os = w.os
  tape : w'.tape = w.tape
  output : w'.output = w.output
  size : w.heap.size ≤ w'.heap.size
  block : ∀ k, k < w.heap.size → ¬ S k → w'.heap[k]? = w.heap[k]?

section
variable {S T : Nat → Prop} {w w' w'' : World}
theorem Upd.refl (S : Nat → Prop) (w : World) : Upd S w w := ⟨rfl, rfl, rfl, Nat.le_refl _, fun _ _ _ => rfl⟩
theorem Upd.mono (h : Upd S w w') (hs : ∀ k, k < w.heap.size → S k → T k) : Upd T w w' := ⟨h.os, h.tape, h.output, h.size, fun k hk hn => h.block k hk fun hx => hn (hs k hk hx)⟩
theorem Upd.trans (h : Upd S w w') (k : Upd T w' w'') (hs : ∀ i, i < w.heap.size → T i → S i) : Upd S w w'' :=
  ⟨k.os.trans h.os, k.tape.trans h.tape, k.output.trans h.output, Nat.le_trans h.size k.size, fun i hi hn => (k.block i (Nat.lt_of_lt_of_le hi h.size) fun hx => hn (hs i hi hx)).trans (h.block i hi hn)⟩
theorem Upd.drew (h : Upd S w w') : Upd S w w'.drew := ⟨h.os, h.tape, h.output, h.size, h.block⟩
theorem Upd.drewN (h : Upd S w w') (n : Nat) : Upd S w (w'.drewN n) := ⟨h.os, h.tape, h.output, h.size, h.block⟩
theorem Upd.alloc (h : Upd S w w') (o : Obj) : Upd S w (w'.alloc o) :=
  h.trans (T := fun _ => False) ⟨rfl, rfl, rfl, by simp, fun k hk _ => Below.heap_alloc _ _ _ hk⟩ fun _ _ hf => hf.elim
theorem Upd.setCell (h : Upd S w w') {p : Addr} (hp : p.block < w.heap.size → S p.block) (u : Value) : Upd S w (w'.setCell p u) :=
  h.trans (T := fun k => k = p.block) ⟨rfl, rfl, rfl, by simp [World.setCell], fun k _ hk => Below.heap_setCell _ _ _ _ hk⟩ fun i hi e => by subst e; exact hp hi
theorem Upd.set_ (w : World) (p : Addr) (u : Value) : Upd (fun k => k = p.block) w (w.setCell p u) := (Upd.refl (fun k => k = p.block) w).setCell (p := p) (fun _ => rfl) u
theorem Upd.grown (h : Upd S w w') {row : Option Nat} (hg : w'.grownBy w'' row) (hr : ∀ k, row = some k → k < w.heap.size → S k) : Upd S w w'' :=
  h.trans (T := fun k => some k = row) ⟨hg.os, hg.tape, hg.output, hg.size, fun k hk hn => hg.block k hk hn⟩ fun i hi e => hr i e.symm hi
theorem Upd.of_below {B : Nat} (h : Below B w w') : Upd (fun k => B ≤ k) w w' := ⟨h.os, h.tape, h.output, h.size, fun k _ hk => h.block k (by omega)⟩
theorem Upd.of_below_size (h : Below w.heap.size w w') : Upd S w w' := ⟨h.os, h.tape, h.output, h.size, fun k hk _ => h.block k hk⟩
theorem Upd.below {B : Nat} (h : Upd S w w') (hB : B ≤ w.heap.size) (hs : ∀ k, k < B → ¬ S k) : Below B w w' := ⟨h.os, h.tape, h.output, h.size, fun k hk => h.block k (by omega) (hs k hk)⟩
theorem Upd.thenBelow {B : Nat} (h : Upd S w w') (hb : Below B w' w'') (hB : w.heap.size ≤ B) : Upd S w w'' :=
  h.trans (T := fun k => B ≤ k) (Upd.of_below hb) fun i hi hx => absurd hx (by omega)
end

theorem below_of_drew {B : Nat} {w w' : World} (h : Below B w.drew w') : Below B w w' := ⟨h.os, h.tape, h.output, h.size, h.block⟩
theorem below_of_drewN {B n : Nat} {w w' : World} (h : Below B (w.drewN n) w') : Below B w w' := ⟨h.os, h.tape, h.output, h.size, h.block⟩
theorem upd_of_drew {S : Nat → Prop} {w w' : World} (h : Upd S w.drew w') : Upd S w w' := ⟨h.os, h.tape, h.output, h.size, h.block⟩
theorem upd_of_drewN {S : Nat → Prop} {n : Nat} {w w' : World} (h : Upd S (w.drewN n) w') : Upd S w w' := ⟨h.os, h.tape, h.output, h.size, h.block⟩
theorem below_then {w0 w w' : World} (hb : Below w.heap.size w w') (h : Below w0.heap.size w0 w) : Below w0.heap.size w0 w' := h.trans (hb.mono h.size)
theorem below_drewN {B : Nat} {a w : World} (h : Below B a w) (n : Nat) : Below B a (w.drewN n) := ⟨h.os, h.tape, h.output, h.size, h.block⟩

/-! ### A slice that reads as a list of cells -/

def Reads (w : World) (B size : Nat) (A : Option Addr) (n : Nat) (xs : List Value) : Prop :=
  xs.length = n * size ∧ (0 < n → ∃ ad, A = some ad ∧ ad.block < B ∧ ∀ j u, xs[j]? = some u → w.cell? (ad.add j) = some u)

section
variable {w w' : World} {B B' size n : Nat} {A : Option Addr} {xs : List Value}
theorem Reads.none_ : Reads w B size A 0 [] := ⟨by simp, fun h => absurd h (by omega)⟩
theorem Reads.len (h : Reads w B size A n xs) : xs.length = n * size := h.1
theorem Reads.at_ {k : Nat} (h : Reads w B 1 A n xs) (hk : k < n) : ∃ ad u, A = some ad ∧ ad.block < B ∧ xs[k]? = some u ∧ w.cell? (ad.add k) = some u := by
  obtain ⟨ad, e, hb, hc⟩ := h.2 (by omega)
  have hl : k < xs.length := by have := h.1; omega
  exact ⟨ad, xs[k], e, hb, List.getElem?_eq_getElem hl, hc k _ (List.getElem?_eq_getElem hl)⟩
theorem Reads.keep (h : Reads w B size A n xs) (hk : ∀ p : Addr, p.block < B → w'.cell? p = w.cell? p) : Reads w' B size A n xs :=
  ⟨h.1, fun hn => by
    obtain ⟨ad, e, hb, hc⟩ := h.2 hn
    exact ⟨ad, e, hb, fun j u hu => (hk _ (by rw [block_of_add]; exact hb)).trans (hc j u hu)⟩⟩
theorem Reads.more (h : Reads w B size A n xs) (hB : B ≤ B') : Reads w B' size A n xs :=
  ⟨h.1, fun hn => by
    obtain ⟨ad, e, hb, hc⟩ := h.2 hn
    exact ⟨ad, e, by omega, hc⟩⟩
theorem Reads.below (h : Reads w B size A n xs) (hb : Below B w w') : Reads w' B size A n xs := h.keep fun _ hp => hb.cell hp
theorem Reads.upd {S : Nat → Prop} (h : Reads w B size A n xs) (hu : Upd S w w') (hs : ∀ k, k < B → ¬ S k) (hB : B ≤ w.heap.size) : Reads w' B size A n xs :=
  h.keep fun p hp => World.cell?_of_block (hu.block p.block (by omega) (hs _ hp))
theorem Reads.drew (h : Reads w B size A n xs) : Reads w.drew B size A n xs := h
theorem Reads.drewN (h : Reads w B size A n xs) (k : Nat) : Reads (w.drewN k) B size A n xs := h
theorem Reads.alloc (h : Reads w B size A n xs) (hB : B ≤ w.heap.size) (o : Obj) : Reads (w.alloc o) B size A n xs := h.keep fun p hp => World.cell?_alloc_lt w o p (by omega)
theorem Reads.setCell (h : Reads w B size A n xs) {p : Addr} (hB : B ≤ p.block) (u : Value) : Reads (w.setCell p u) B size A n xs :=
  h.keep fun q hq => World.cell?_setCell_other w p q u (fun e => by subst e; omega)
theorem Reads.cut (h : Reads w B size A n xs) {k cap : Nat} (hk : k ≤ n) (hc : n ≤ cap) :
    Reads w B size (if cap = k then A else A.map (·.add (k * size))) (n - k) (xs.drop (k * size)) := by
  refine ⟨by rw [List.length_drop, h.1, Nat.sub_mul], fun hn => ?_⟩
  obtain ⟨ad, rfl, hb, hcell⟩ := h.2 (by omega)
  rw [if_neg (by omega)]
  refine ⟨ad.add (k * size), rfl, by rw [block_of_add]; exact hb, fun j u hu => ?_⟩
  rw [add_of_add]
  exact hcell _ u (by rw [← hu, List.getElem?_drop])
theorem Reads.first (h : Reads w B size A n xs) {k : Nat} (hk : k ≤ n) : Reads w B size A k (xs.take (k * size)) := by
  have hks : k * size ≤ n * size := Nat.mul_le_mul_right _ hk
  refine ⟨by rw [List.length_take, h.1]; omega, fun hn => ?_⟩
  obtain ⟨ad, rfl, hb, hcell⟩ := h.2 (by omega)
  refine ⟨ad, rfl, hb, fun j u hu => hcell j u ?_⟩
  rw [List.getElem?_take] at hu
  split at hu
  · exact hu
  · cases hu
end

theorem Reads.lit {size : Nat} (w : World) (cs : Array Value) (t : TypeId) (fr : Nat × Nat) (n : Nat) (xs : List Value) (hx : cs.toList = xs) (hn : xs.length = n * size) : Reads (w.alloc (.cells cs t fr)) (w.heap.size + 1) size (some ⟨w.heap.size, 0, none⟩) n xs := by
  refine ⟨hn, fun _ => ⟨_, rfl, Nat.lt_succ_self _, fun j u hu => ?_⟩⟩
  have hadd : (⟨w.heap.size, 0, none⟩ : Addr).add j = ⟨w.heap.size, j, none⟩ := by unfold Addr.add; split <;> simp_all
  rw [hadd, cell_of_row _ w.heap.size j cs t fr (heap_alloc_new w _)]
  subst hx
  simpa using hu

/-! ### A block known whole -/

def Blk (w : World) (g : Nat) (t : TypeId) (cs : Array Value) : Prop := w.heap[g]? = some (.cells cs t (0, 0))

section
variable {w w' : World} {g : Nat} {t : TypeId} {cs : Array Value}
theorem Blk.lt (h : Blk w g t cs) : g < w.heap.size := by
  rcases Nat.lt_or_ge g w.heap.size with hlt | hge
  · exact hlt
  · unfold Blk at h; rw [Array.getElem?_eq_none hge] at h; cases h
theorem Blk.cell (h : Blk w g t cs) (i : Nat) : w.cell? ⟨g, i, none⟩ = cs[i]? := cell_of_row w g i cs t (0, 0) h
theorem Blk.frozen (h : Blk w g t cs) (i : Nat) : w.frozen? ⟨g, i, none⟩ = false := by
  unfold Blk at h
  simp [World.frozen?, h]
theorem Blk.new (w : World) (t : TypeId) (cs : Array Value) : Blk (w.alloc (.cells cs t)) w.heap.size t cs := heap_alloc_new w _
theorem Blk.drew (h : Blk w g t cs) : Blk w.drew g t cs := h
theorem Blk.drewN (h : Blk w g t cs) (n : Nat) : Blk (w.drewN n) g t cs := h
theorem Blk.alloc (h : Blk w g t cs) (o : Obj) : Blk (w.alloc o) g t cs := (Below.heap_alloc w o g h.lt).trans h
theorem Blk.set_ (h : Blk w g t cs) (i : Nat) (u : Value) : Blk (w.setCell ⟨g, i, none⟩ u) g t (cs.setIfInBounds i u) := by
  unfold Blk at h ⊢
  simp [World.setCell, Array.getElem?_modify, h]
theorem Blk.far (h : Blk w g t cs) {p : Addr} (hp : g ≠ p.block) (u : Value) : Blk (w.setCell p u) g t cs := (Below.heap_setCell w p u g hp).trans h
theorem Blk.below {B : Nat} (h : Blk w g t cs) (hb : Below B w w') (hg : g < B) : Blk w' g t cs := (hb.block g hg).trans h
theorem Blk.upd {S : Nat → Prop} (h : Blk w g t cs) (hu : Upd S w w') (hg : ¬ S g) : Blk w' g t cs := (hu.block g h.lt hg).trans h
theorem Blk.grown {row : Option Nat} (h : Blk w g t cs) (hb : w.grownBy w' row) (hg : some g ≠ row) : Blk w' g t cs := (hb.block g h.lt hg).trans h
theorem Blk.ne_ {g' : Nat} {t' : TypeId} {cs' : Array Value} (h : Blk w g t cs) (h' : Blk w g' t' cs') (hne : t ≠ t') : g ≠ g' := by
  rintro rfl
  unfold Blk at h h'
  rw [h] at h'
  injection h' with h'
  injection h' with _ ht
  exact hne ht
end

/-! ### A row that an object owns: at the head of its block, of a block that may be longer than the capacity -/

def bOf : Option Addr → Option Nat
  | some a => some a.block
  | none => none

def Own (w : World) (t : TypeId) (size : Nat) (A : Option Addr) (n c : Nat) (xs : List Value) : Prop :=
  xs.length = n * size ∧ ((A = none ∧ n = 0 ∧ c = 0) ∨ ∃ g cur, A = some ⟨g, 0, none⟩ ∧ Blk w g t cur ∧ n ≤ c ∧ c ≤ maxLen ∧ c * size ≤ cur.size ∧ cur.toList.take (n * size) = xs)

section
variable {w w' : World} {t : TypeId} {size n c : Nat} {A : Option Addr} {xs : List Value}
theorem Own.none_ : Own w t size none 0 0 [] := ⟨by simp, .inl ⟨rfl, rfl, rfl⟩⟩
theorem Own.len (h : Own w t size A n c xs) : xs.length = n * size := h.1
theorem Own.le_cap (h : Own w t size A n c xs) : n ≤ c := by
  rcases h.2 with ⟨_, rfl, rfl⟩ | ⟨_, _, _, _, h, _⟩
  · exact Nat.le_refl _
  · exact h
theorem Own.cap_le (h : Own w t size A n c xs) : c ≤ maxLen := by
  rcases h.2 with ⟨_, rfl, rfl⟩ | ⟨_, _, _, _, _, h, _⟩
  · exact Nat.zero_le _
  · exact h
theorem Own.lt {g : Nat} (h : Own w t size A n c xs) (hg : bOf A = some g) : g < w.heap.size := by
  rcases h.2 with ⟨rfl, _⟩ | ⟨g', cur, rfl, hb, _⟩
  · cases hg
  · cases hg; exact hb.lt
theorem Own.upd {S : Nat → Prop} (h : Own w t size A n c xs) (hu : Upd S w w') (hs : ∀ g, bOf A = some g → ¬ S g) : Own w' t size A n c xs := by
  refine ⟨h.1, ?_⟩
  rcases h.2 with h | ⟨g, cur, rfl, hb, r⟩
  · exact .inl h
  · exact .inr ⟨g, cur, rfl, hb.upd hu (hs g rfl), r⟩
theorem Own.alloc (h : Own w t size A n c xs) (o : Obj) : Own (w.alloc o) t size A n c xs :=
  h.upd (S := fun _ => False) ((Upd.refl _ w).alloc o) fun _ _ hf => hf
theorem Own.drew (h : Own w t size A n c xs) : Own w.drew t size A n c xs := h
theorem Own.drewN (h : Own w t size A n c xs) (k : Nat) : Own (w.drewN k) t size A n c xs := h
theorem Own.below {B : Nat} (h : Own w t size A n c xs) (hb : Below B w w') (hB : w.heap.size ≤ B) : Own w' t size A n c xs :=
  h.upd (Upd.of_below hb) fun g hg hx => by have := h.lt hg; omega
theorem Own.setCell (h : Own w t size A n c xs) {p : Addr} (hp : bOf A ≠ some p.block) (u : Value) : Own (w.setCell p u) t size A n c xs :=
  h.upd (S := fun k => k = p.block) ((Upd.refl (fun k => k = p.block) w).setCell (p := p) (fun _ => rfl) u) fun g hg e => hp (by rw [hg, e])
theorem Own.ne_blk {g : Nat} {t' : TypeId} {cs : Array Value} (h : Own w t size A n c xs) (hb : Blk w g t' cs) (hne : t ≠ t') : bOf A ≠ some g := by
  rcases h.2 with ⟨rfl, _⟩ | ⟨g', cur, rfl, hb', _⟩
  · simp [bOf]
  · intro e
    exact Blk.ne_ hb' hb hne (by simpa [bOf] using e)
theorem Own.reads {B : Nat} (h : Own w t size A n c xs) (hB : ∀ g, bOf A = some g → g < B) : Reads w B size A n xs := by
  refine ⟨h.1, fun hn => ?_⟩
  rcases h.2 with ⟨rfl, h0, _⟩ | ⟨g, cur, rfl, hb, _, _, _, htake⟩
  · omega
  · refine ⟨⟨g, 0, none⟩, rfl, hB g rfl, fun j u hu => ?_⟩
    have hadd : (⟨g, 0, none⟩ : Addr).add j = ⟨g, j, none⟩ := by unfold Addr.add; split <;> simp_all
    rw [hadd, hb.cell j]
    rw [← htake, List.getElem?_take] at hu
    split at hu
    · simpa using hu
    · cases hu
theorem Own.reads_ (h : Own w t size A n c xs) : Reads w w.heap.size size A n xs := h.reads fun _ hg => h.lt hg
/-- 's[:k]': the address stays. -/
theorem Own.first (h : Own w t size A n c xs) {k : Nat} (hk : k ≤ n) : Own w t size A k c (xs.take (k * size)) := by
  have hks : k * size ≤ n * size := Nat.mul_le_mul_right _ hk
  refine ⟨by rw [List.length_take, h.1]; omega, ?_⟩
  rcases h.2 with ⟨rfl, rfl, rfl⟩ | ⟨g, cur, rfl, hb, h1, h2, h3, h4⟩
  · exact .inl ⟨rfl, by omega, rfl⟩
  · refine .inr ⟨g, cur, rfl, hb, by omega, h2, h3, ?_⟩
    rw [← h4, List.take_take, Nat.min_eq_left hks]
/-- 's[:n:k]': a smaller capacity. -/
theorem Own.clip (h : Own w t size A n c xs) {k : Nat} (hk : n ≤ k) (hc : k ≤ c) : Own w t size A n k xs := by
  have hks : k * size ≤ c * size := Nat.mul_le_mul_right _ hc
  refine ⟨h.1, ?_⟩
  rcases h.2 with ⟨rfl, rfl, rfl⟩ | ⟨g, cur, rfl, hb, h1, h2, h3, h4⟩
  · exact .inl ⟨rfl, rfl, by omega⟩
  · exact .inr ⟨g, cur, rfl, hb, hk, by omega, by omega, h4⟩
theorem Own.new (w : World) (t : TypeId) (size n : Nat) (cs : Array Value) (hn : cs.size = n * size) (hm : n ≤ maxLen) :
    Own (w.alloc (.cells cs t)) t size (some ⟨w.heap.size, 0, none⟩) n n cs.toList :=
  ⟨by simpa using hn, .inr ⟨w.heap.size, cs, rfl, Blk.new w t cs, Nat.le_refl _, hm, by omega, by rw [List.take_of_length_le (by simp; omega)]⟩⟩
end

/-! ### What is appended -/

section
variable {P : Program} {w : World}

theorem Src.ofReads {size : Nat} {tx e' : TypeId} (hk : P.underlying tx = some (.slice e')) {B : Nat} {A : Option Addr} {n : Nat} {xs : List Value} (c : Nat) (h : Reads w B size A n xs) (h1 : ∀ u ∈ xs, u.oneCell' = true) :
    Src P size tx (.slice A n c) n xs w := by
  rcases Nat.eq_zero_or_pos n with rfl | hn
  · have hx : xs = [] := List.eq_nil_of_length_eq_zero (by simpa using h.1)
    subst hx
    cases A with
    | none => exact Src.ofNil w hk c
    | some a => exact Src.ofSlice w hk a 0 c [] (by simp) (by simp) (by simp)
  · obtain ⟨ad, rfl, _, hc⟩ := h.2 hn
    exact Src.ofSlice w hk ad n c xs h.1 hc h1

theorem drop_add_len (l : List Value) (a : Nat) (news : List Value) : (l.take a ++ news ++ l.drop (a + news.length)).take (a + news.length) = l.take a ++ news ∨ l.length < a := by
  rcases Nat.lt_or_ge l.length a with h | h
  · exact .inr h
  · left
    rw [List.take_append_of_le_length (by simp; omega), List.take_of_length_le (by simp; omega)]

theorem setCells_eq_setRow (g o : Nat) (t : TypeId) : ∀ (news : List Value) (cur : Array Value) (w : World), w.heap[g]? = some (.cells cur t (0, 0)) → o + news.length ≤ cur.size →
    ∃ cur', (w.setCells g o news).heap[g]? = some (.cells cur' t (0, 0)) ∧ cur'.size = cur.size ∧ cur'.toList = cur.toList.take o ++ news ++ cur.toList.drop (o + news.length) := by
  intro news
  induction news generalizing o with
  | nil => intro cur w hw _; exact ⟨cur, hw, rfl, by simp⟩
  | cons u news ih =>
    intro cur w hw hl
    simp only [List.length_cons] at hl
    have hw' : (w.setCell ⟨g, o, none⟩ u).heap[g]? = some (.cells (cur.setIfInBounds o u) t (0, 0)) := Blk.set_ (w := w) (g := g) (t := t) (cs := cur) hw o u
    obtain ⟨cur', h1, h2, h3⟩ := ih (o + 1) (cur.setIfInBounds o u) (w.setCell ⟨g, o, none⟩ u) hw' (by simp; omega)
    refine ⟨cur', h1, by rw [h2]; simp, ?_⟩
    rw [h3]
    have ho : o < cur.toList.length := by simp; omega
    simp only [Array.toList_setIfInBounds, List.length_cons]
    apply List.ext_getElem?
    intro i
    by_cases hi : i < o
    · rw [List.getElem?_append_left (by simp; omega), List.getElem?_append_left (by simp; omega), List.getElem?_append_left (by simp; omega), List.getElem?_append_left (by simp; omega)]
      simp only [List.getElem?_take]
      rw [if_pos (by omega), if_pos (by omega), List.getElem?_set_ne (by omega)]
    · by_cases hi2 : i = o
      · subst hi2
        rw [List.getElem?_append_left (by simp; omega), List.getElem?_append_left (by simp; omega), List.getElem?_append_left (by simp; omega), List.getElem?_append_right (by simp; omega)]
        simp only [List.getElem?_take, List.length_take]
        rw [if_pos (by omega), List.getElem?_set_self (by omega), show i - min i cur.toList.length = 0 from by omega]
        rfl
      · by_cases hi3 : i < o + (news.length + 1)
        · rw [List.getElem?_append_left (by simp; omega), List.getElem?_append_right (by simp; omega), List.getElem?_append_left (by simp; omega), List.getElem?_append_right (by simp; omega)]
          simp only [List.length_take, List.length_set]
          rw [show i - min o cur.toList.length = (i - min (o + 1) cur.toList.length) + 1 from by omega]
          rfl
        · rw [List.getElem?_append_right (by simp; omega), List.getElem?_append_right (by simp; omega)]
          simp only [List.length_append, List.length_take, List.length_set, List.length_cons, List.getElem?_drop]
          rw [List.getElem?_set_ne (by omega)]
          congr 1
          omega

theorem setCells_other (g o k : Nat) (hk : k ≠ g) : ∀ (news : List Value) (w : World) , (w.setCells g o news).heap[k]? = w.heap[k]? := by
  intro news
  induction news generalizing o with
  | nil => intro w; rfl
  | cons u news ih =>
    intro w
    have := ih (o + 1) (w.setCell ⟨g, o, none⟩ u)
    exact this.trans (Below.heap_setCell w ⟨g, o, none⟩ u k hk)

theorem setCells_same (g o : Nat) : ∀ (news : List Value) (w : World), (w.setCells g o news).os = w.os ∧ (w.setCells g o news).tape = w.tape ∧ (w.setCells g o news).output = w.output ∧ (w.setCells g o news).heap.size = w.heap.size := by
  intro news
  induction news generalizing o with
  | nil => intro w; exact ⟨rfl, rfl, rfl, rfl⟩
  | cons u news ih =>
    intro w
    obtain ⟨h1, h2, h3, h4⟩ := ih (o + 1) (w.setCell ⟨g, o, none⟩ u)
    exact ⟨h1, h2, h3, h4.trans (by simp [World.setCell])⟩

/-- 'append' onto an owned row: whatever the source. -/
theorem run_append_mine (t tx ty e : TypeId) (i : TypeInfo) (z : Value) (size bytes : Nat) (ht : P.underlying t = some (.slice e)) (hi : P.info? e = some i) (hz : i.zero = some z)
    (hsize : i.size = size) (hby : i.bytes = bytes) (hzs : z.cells.size = size) {A : Option Addr} {n c : Nat} {xs : List Value} (hown : Own w e size A n c xs)
    {x : Value} {m : Nat} {news : List Value} (hs : Src P size tx x m news w) (h63 : n + m ≤ maxLen) (hbytes : (n + m) * bytes ≤ 140737488355328) :
    ∃ A' c' w', (Builtin.append_ #[t, tx] ty #[.slice A n c, x]).run P w = .ok (.slice A' (n + m) c') w' ∧ Own w' e size A' (n + m) c' (xs ++ news) ∧ w.grownBy w' (bOf A) ∧
      (bOf A' = bOf A ∨ bOf A' = some w.heap.size) := by
  subst hsize
  subst hby
  have hsmall : n + m ≤ 9223372036854775807 := by simp only [maxLen] at h63; omega
  have hlen : (xs ++ news).length = (n + m) * i.size := by rw [List.length_append, hown.1, hs.newsLen, Nat.add_mul]
  by_cases hroom : n + m ≤ c
  · rcases hown.2 with ⟨rfl, rfl, rfl⟩ | ⟨g, cur, rfl, hg, hnc, hcm, hcs, htake⟩
    · have hm : m = 0 := by omega
      subst hm
      have hn : news = [] := List.eq_nil_of_length_eq_zero (by simpa using hs.newsLen)
      subst hn
      refine ⟨none, 0, w, ?_, by simpa using hown, World.grownBy.refl w _, .inl rfl⟩
      rcases hs.kind with ⟨e', hk⟩ | hk <;>
        simp [Builtin.append_, run_underlying ht, run_underlying hk, sizeOf, typeInfo, hi, hs.len, hs.cells]
    · have hfit : n * i.size + news.length ≤ cur.size := by rw [hs.newsLen, ← Nat.add_mul]; exact Nat.le_trans (Nat.mul_le_mul_right _ hroom) hcs
      have hr := run_append_room_src (P := P) w t tx ty e i ht hi g 0 n c x m news hs hroom
        (fun j hj => by rw [hg.cell]; simp; omega) (fun j hj => hg.frozen _)
      simp only [Nat.zero_add] at hr
      obtain ⟨cur', q1, q2, q3⟩ := setCells_eq_setRow g (n * i.size) e news cur w hg hfit
      obtain ⟨s1, s2, s3, s4⟩ := setCells_same g (n * i.size) news w
      refine ⟨_, _, _, hr, ⟨hlen, .inr ⟨g, cur', rfl, q1, hroom, hcm, by omega, ?_⟩⟩, ⟨s1, s2, s3, by omega, fun k _ hk => setCells_other g _ k (fun e => hk (by simp [bOf, e])) news w⟩, .inl rfl⟩
      rw [q3, show (n + m) * i.size = n * i.size + news.length from by rw [hs.newsLen, Nat.add_mul]]
      rcases drop_add_len cur.toList (n * i.size) news with h | h
      · rw [h, htake]
      · simp at h; omega
  · have hfc : (Builtin.firstCells i.size n (.slice A n c)).run P w.drew = .ok xs.toArray w.drew := by
      rcases hown.2 with ⟨rfl, rfl, rfl⟩ | ⟨g, cur, rfl, hg, hnc, hcm, hcs, htake⟩
      · have hx : xs = [] := List.eq_nil_of_length_eq_zero (by simpa using hown.1)
        subst hx
        simp [Builtin.firstCells]
      · refine run_firstCells_some (P := P) w.drew i.size n ⟨g, 0, none⟩ n c xs hown.1 ?_
        rcases Nat.eq_zero_or_pos n with h0 | h0
        · subst h0
          have hx : xs = [] := List.eq_nil_of_length_eq_zero (by simpa using hown.1)
          subst hx
          simp
        · obtain ⟨ad, e1, _, hc⟩ := hown.reads_.2 h0
          injection e1 with e1
          subst e1
          exact hc
    have hge := grownCap_ge w (n + m) c e
    have hcm := grownCap_le_maxLen w (n + m) c e h63
    have hr := run_append_grow_src (P := P) w t tx ty e i z ht hi hz A n c xs hfc x m news hs (by omega) (by omega) (growslice_fits (by omega) hbytes)
    refine ⟨_, _, _, hr, ⟨hlen, .inr ⟨w.heap.size, _, rfl, heap_alloc_new w.drew _, hge, hcm, ?_, ?_⟩⟩, ⟨rfl, rfl, rfl, by simp, fun k hk _ => Below.heap_alloc w.drew _ k hk⟩, .inr rfl⟩
    · simp only [Array.size_append, List.size_toArray, size_zeroCells, hzs, hlen, ← Nat.add_mul]
      exact Nat.mul_le_mul_right _ (by omega)
    · simp only [Array.toList_append]
      rw [← hlen]
      exact List.take_left

theorem wp_append_mine {o : Oper} {a : Act} {K : Act → World → Prop} {Q : Exit → Act → World → Prop} (s x : Operand) (t tx : TypeId)
    (ho : o.op = .call { callee := .builtin .append, args := #[s, x], argTypes := #[t, tx] })
    (e : TypeId) (i : TypeInfo) (z : Value) (size bytes : Nat) (ht : P.underlying t = some (.slice e)) (hi : P.info? e = some i) (hz : i.zero = some z)
    (hsize : i.size = size) (hby : i.bytes = bytes) (hzs : z.cells.size = size) {A : Option Addr} {n c : Nat} {xs : List Value} (hs : a.eval s = .slice A n c) (hown : Own w e size A n c xs)
    {y : Value} {m : Nat} {news : List Value} (hx : a.eval x = y) (hsrc : Src P size tx y m news w) (h63 : n + m ≤ maxLen) (hbytes : (n + m) * bytes ≤ 140737488355328)
    (h : ∀ A' c' w', Own w' e size A' (n + m) c' (xs ++ news) → w.grownBy w' (bOf A) → (bOf A' = bOf A ∨ bOf A' = some w.heap.size) → K (a.put o.dst (.slice A' (n + m) c')) w') : o.wp P a w K Q := by
  obtain ⟨A', c', w', hrun, h2, h3, h4⟩ := run_append_mine (P := P) (w := w) t tx o.type e i z size bytes ht hi hz hsize hby hzs hown hsrc h63 hbytes
  unfold Oper.wp execOp
  simp only [ho, resolve, invoke, builtin, Sem.run_bind, Sem.run_pure, Result.andThen_ok, List.map_toArray, List.map_cons, List.map_nil, hs, hx, hrun]
  exact h A' c' w' h2 h3 h4

theorem wpList_append_mine {ops : Array Oper} {rest : List Oper} {o : Oper} {a : Act} {Q : Exit → Act → World → Prop} (hgd : o.guard = none) (s x : Operand) (t tx : TypeId)
    (ho : o.op = .call { callee := .builtin .append, args := #[s, x], argTypes := #[t, tx] })
    (e : TypeId) (i : TypeInfo) (z : Value) (size bytes : Nat) (ht : P.underlying t = some (.slice e)) (hi : P.info? e = some i) (hz : i.zero = some z)
    (hsize : i.size = size) (hby : i.bytes = bytes) (hzs : z.cells.size = size) {A : Option Addr} {n c : Nat} {xs : List Value} (hs : a.eval s = .slice A n c) (hown : Own w e size A n c xs)
    {y : Value} {m : Nat} {news : List Value} (hx : a.eval x = y) (hsrc : Src P size tx y m news w) (h63 : n + m ≤ maxLen) (hbytes : (n + m) * bytes ≤ 140737488355328)
    (h : ∀ A' c' w', Own w' e size A' (n + m) c' (xs ++ news) → w.grownBy w' (bOf A) → (bOf A' = bOf A ∨ bOf A' = some w.heap.size) → wpList P ops Q rest (a.put o.dst (.slice A' (n + m) c')) w') :
    wpList P ops Q (o :: rest) a w :=
  wpList_plain hgd fun _ hK => wp_append_mine s x t tx ho e i z size bytes ht hi hz hsize hby hzs hs hown hx hsrc h63 hbytes fun A' c' w' h2 h3 h4 => hK _ _ (h A' c' w' h2 h3 h4)
end

section
variable {P : Program} {w : World}
theorem step_append_mine {ops : Array Oper} {o : Oper} {a : Act} {K : Act → World → Prop} {Q : Exit → Act → World → Prop} {E : Prop} (hgd : o.guard = none) (s x : Operand) (t tx : TypeId)
    (ho : o.op = .call { callee := .builtin .append, args := #[s, x], argTypes := #[t, tx] })
    (e : TypeId) (i : TypeInfo) (z : Value) (size bytes : Nat) (ht : P.underlying t = some (.slice e)) (hi : P.info? e = some i) (hz : i.zero = some z)
    (hsize : i.size = size) (hby : i.bytes = bytes) (hzs : z.cells.size = size) {A : Option Addr} {n c : Nat} {xs : List Value} (hs : a.eval s = .slice A n c) (hown : Own w e size A n c xs)
    {y : Value} {m : Nat} {news : List Value} (hx : a.eval x = y) (hsrc : Src P size tx y m news w) (h63 : n + m ≤ maxLen) (hbytes : (n + m) * bytes ≤ 140737488355328)
    (h : ∀ A' c' w', Own w' e size A' (n + m) c' (xs ++ news) → w.grownBy w' (bOf A) → (bOf A' = bOf A ∨ bOf A' = some w.heap.size) → K (a.put o.dst (.slice A' (n + m) c')) w') :
    if Region.wanted o (yielded ops a.tmps) = true then Oper.wp P o a w K Q else E := by
  have hw : Region.wanted o (yielded ops a.tmps) = true := by simp [Region.wanted, hgd]
  rw [if_pos hw]
  exact wp_append_mine s x t tx ho e i z size bytes ht hi hz hsize hby hzs hs hown hx hsrc h63 hbytes h
end

/-! ### Bytes -/

def byv (b : UInt8) : Value := .int .u8 (b.toNat : Int)
def bys (bs : List UInt8) : List Value := bs.map byv
def bstr (bs : List UInt8) : ByteArray := ⟨bs.toArray⟩

theorem bys_len (bs : List UInt8) : (bys bs).length = bs.length := by simp [bys]
theorem bys_append (a b : List UInt8) : bys (a ++ b) = bys a ++ bys b := by simp [bys]
theorem bys_take (a : List UInt8) (k : Nat) : (bys a).take k = bys (a.take k) := by simp [bys]
theorem bys_drop (a : List UInt8) (k : Nat) : (bys a).drop k = bys (a.drop k) := by simp [bys]
theorem bys_one (bs : List UInt8) : ∀ u ∈ bys bs, u.oneCell' = true := by
  intro u hu
  obtain ⟨b, _, rfl⟩ := List.mem_map.1 hu
  rfl
theorem bys_inj {a b : List UInt8} (h : bys a = bys b) : a = b := by
  induction a generalizing b with
  | nil => cases b with | nil => rfl | cons _ _ => simp [bys] at h
  | cons x a ih =>
    cases b with
    | nil => simp [bys] at h
    | cons y b =>
      simp only [bys, List.map_cons, List.cons.injEq, byv, Value.int.injEq, true_and] at h
      obtain ⟨h1, h2⟩ := h
      rw [ih (b := b) h2, show x = y from UInt8.toNat_inj.1 (by omega)]

@[go_sem] theorem bstr_toList (bs : List UInt8) : (bstr bs).toList = bs := by
  simp [bstr, go_sem]
@[go_sem] theorem bstr_size (bs : List UInt8) : (bstr bs).size = bs.length := by simp [bstr, ByteArray.size]
theorem bstr_inj {a b : List UInt8} (h : bstr a = bstr b) : a = b := by rw [← bstr_toList a, h, bstr_toList]
@[go_sem] theorem bstr_append (a b : List UInt8) : bstr a ++ bstr b = bstr (a ++ b) := ByteArray.mk_append_mk a b

@[go_sem] theorem bstr_extract (bs : List UInt8) (i j : Nat) : (bstr bs).extract i j = bstr ((bs.take j).drop i) := by
  apply ByteArray.ext
  apply Array.ext'
  simp [bstr, ByteArray.data_extract, List.extract_eq_take_drop, List.drop_take]
theorem run_bstr_add {P : Program} (W : World) (a b : List UInt8) (h : a.length + b.length ≤ 9223372036854775807) : (Op.stringOp .add (bstr a) (bstr b)).run P W = .ok (.string (bstr (a ++ b))) W := by
  rw [run_string_add_sum _ _ _ (by rw [bstr_size, bstr_size]; exact h), bstr_append]

section
variable {P : Program} {w : World}
theorem run_bytes_str (src e : TypeId) (hs : P.underlying src = some (.slice e)) (he : P.underlying e = some (.int .u8)) (dst : TypeId) (hd : P.underlying dst = some .string) {B n : Nat} {A : Option Addr} {bs : List UInt8} (c : Nat)
    (h : Reads w B 1 A n (bys bs)) : (convert src dst (.slice A n c)).run P w = .ok (.string (bstr bs)) w := by
  obtain rfl : bs.length = n := by have := h.len; rw [bys_len] at this; omega
  rcases A with _ | ad
  · have h0 : bs.length = 0 := by
      rcases Nat.eq_zero_or_pos bs.length with h0 | h0
      · exact h0
      · obtain ⟨_, h1, _⟩ := h.2 h0
        cases h1
    have hb : bs = [] := List.eq_nil_of_length_eq_zero h0
    subst hb
    rw [run_convert_bytes_nil w src e hs he _ _ dst hd]
    rfl
  · have hl : (loadCells ad bs.length).run P w = .ok ((bs.map fun b => (b.toNat : Int)).map (Value.int .u8)).toArray w := by
      have := run_loadCells_list (P := P) w ad (bys bs) (fun j v hj => by
        have hn : 0 < bs.length := by
          rcases Nat.eq_zero_or_pos bs.length with h0 | h0
          · have hb : bs = [] := List.eq_nil_of_length_eq_zero h0
            subst hb
            simp [bys] at hj
          · exact h0
        obtain ⟨ad', e1, _, hc⟩ := h.2 hn
        injection e1 with e1
        subst e1
        exact hc j v hj)
      rw [bys_len] at this
      rw [this]
      simp [bys, byv, Function.comp_def]
    rw [run_convert_bytes_string w src dst e _ _ c hs he hd, run_bytesToString w _ _ c _ hl, foldl_push_bytes]
    simp [bstr, ByteArray.empty, ByteArray.emptyWithCapacity, Function.comp_def]
    rfl
end

/-- An argument that is a slice of bytes, as the shells' 'IsRow' tells it. -/
theorem reads_of_row {w : World} {a : Option Addr} {len cap : Nat} {zs : List Int}
    (h : (a = none ∧ len = 0 ∧ cap = 0 ∧ zs = []) ∨ ∃ x, a = some x ∧ len ≤ cap ∧ cap ≤ maxLen ∧ zs.length = cap ∧ (∀ i, i < zs.length → w.cell? (x.add i) = some (.int .u8 (zs.getD i 0))) ∧ ∀ n ∈ zs, (Lit.int .u8 n).wf = true) :
    ∃ bs : List UInt8, bs.length = len ∧ Reads w w.heap.size 1 a len (bys bs) ∧ len ≤ cap := by
  rcases h with ⟨rfl, rfl, rfl, rfl⟩ | ⟨x, rfl, hl, hm, hz, hc, hw⟩
  · exact ⟨[], rfl, Reads.none_, Nat.le_refl _⟩
  · have hbs : ((zs.take len).map fun n => UInt8.ofNat n.toNat).length = len := by simp; omega
    refine ⟨_, hbs, ⟨by rw [bys_len, hbs]; omega, fun hn => ⟨x, rfl, ?_, fun j u hu => ?_⟩⟩, hl⟩
    · have := World.block_lt_of_cell? w _ (hc 0 (by omega))
      rwa [block_of_add] at this
    · have hj : j < len := by
        have := (List.getElem?_eq_some_iff.1 hu).1
        rw [bys_len, hbs] at this
        exact this
      rw [hc j (by omega), ← hu]
      have hg : zs[j]? = some (zs.getD j 0) := by simp [List.getD, List.getElem?_eq_getElem (show j < zs.length by omega)]
      have hmem : zs.getD j 0 ∈ zs := List.mem_of_getElem? hg
      have hwf := hw _ hmem
      have hb : 0 ≤ zs.getD j 0 ∧ zs.getD j 0 ≤ 255 := by simpa [Lit.wf, IntKind.min, IntKind.max, IntKind.signed, IntKind.bits] using hwf
      simp only [bys, List.getElem?_map, List.getElem?_take, if_pos hj, hg, Option.map_some]
      simp only [byv, Option.some.injEq, Value.int.injEq, true_and]
      rw [UInt8.toNat_ofNat']
      omega

/-! ### make -/
theorem run_make_nat {P : Program} (t e : TypeId) (i : TypeInfo) (z : Value) (ht : P.underlying t = some (.slice e)) (hi : P.info? e = some i) (hz : i.zero = some z) (hs : i.size = 1) (hz1 : z.cells = #[z])
    (kl kc : IntKind) (n : Nat) (hb : i.bytes * n ≤ 281474976710656) (h63 : n ≤ 9223372036854775807) (W : World) :
    (Instr.makeSlice t (.int kl (n : Int)) (.int kc (n : Int))).run P W = .ok (.slice (some ⟨W.heap.size, 0, none⟩) n n) (W.alloc (.cells (Array.replicate n z) e)) := by
  have hb' : (i.bytes : Int) * (n : Int) ≤ 281474976710656 := by
    have h : ((i.bytes * n : Nat) : Int) ≤ 281474976710656 := by omega
    rwa [Int.natCast_mul] at h
  have hr := run_make (P := P) W t e i z ht hi hz kl kc n n (by omega) (by omega) hb' (by omega)
  simp only [Int.toNat_natCast, hs, Nat.mul_one, hz1] at hr
  rw [hr]
  congr 2
  congr 1
  apply Array.ext
  · simp [madeCells]
  · intro k h1 h2
    simp [madeCells, Nat.mod_one]
end Go.Proofs.YtdbmffagibnibaaGreatDoor
