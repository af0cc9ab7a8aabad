/- Rows of calls that are built one by one; choirseat.Made. -/
import Derived.Test.YtgdhiihfcngjbaaSt7
set_option linter.unusedSimpArgs false
set_option linter.unusedVariables false
namespace Go.Proofs.Ytgdhiihfcngjbaa
open Go.RowKit
set_option maxRecDepth 100000

theorem info_op : (Try.prog.info? 62).map (fun i => (i.zero, i.size, i.bytes)) = some (some (.agg #[.int .u32 0, .int .u32 0, .int .u16 0, .string ⟨#[]⟩, .string ⟨#[]⟩, .slice none 0 0]), 6, 72) := by kernel_rfl
/-- A call that is read as long as no block turns but those of P, and new ones. -/
def OpHeld (w : World) (P : Nat → Prop) (o : OpD) (cs : Array Value) : Prop := ∀ (S : Nat → Prop) (W : World), Upd S w W → (∀ g, S g → P g) → OpReads W W.heap.size o cs
theorem OpHeld.next {w w2 : World} {P P' T : Nat → Prop} {o : OpD} {cs : Array Value} (h : OpHeld w P o cs) (hu : Upd T w w2) (hT : ∀ g, g < w.heap.size → T g → P g) (hP : ∀ g, g < w.heap.size → P' g → P g) : OpHeld w2 P' o cs :=
  fun S W hW hS => h (fun g => g < w.heap.size ∧ (S g ∨ T g)) W ((hu.mono (T := fun g => g < w.heap.size ∧ (S g ∨ T g)) (fun k hk ht => ⟨hk, .inr ht⟩)).trans hW (fun i hi hs => ⟨hi, .inl hs⟩))
    (fun g hg => hg.2.elim (fun hs => hP g hg.1 (hS g hs)) (fun ht => hT g hg.1 ht))
theorem OpHeld.reads {w : World} {P : Nat → Prop} {o : OpD} {cs : Array Value} (h : OpHeld w P o cs) : OpReads w w.heap.size o cs := h (fun _ => False) w (Upd.refl _ w) (fun _ hf => hf.elim)
theorem held_of_row {w w' : World} {o : OpD} {A' : Option Addr} {c' L : Nat} {xs : List Value} {css : Nat → Array Value} (R : VRow w' w.heap.size o.l A' c' xs css) (hL : o.l.length = L) (h16 : L ≤ 2199023255488) (hok : ∀ v ∈ o.l, OkV v) (h1 : o.c < 4294967296) (h2 : o.s < 4294967296) (h3 : o.n < 65536) :
    OpHeld w' (fun g => g < w.heap.size) o #[.int .u32 (o.c : Int), .int .u32 (o.s : Int), .int .u16 (o.n : Int), .string (bstr o.g), .string (bstr o.m), .slice A' L c'] :=
  fun S W hu hS => opread_reads (w := w) (R.upd hu (fun g hg hs => by have h := hS g hs; omega)) hL h16 hok h1 h2 h3


/-- The same call under another id. -/
theorem OpReads.id {w : World} {B c s n c' s' n' L cc : Nat} {g m : List UInt8} {l : List Val} {gg mm : ByteArray} {A : Option Addr} (h : OpReads w B ⟨c, s, n, g, m, l⟩ #[.int .u32 (c : Int), .int .u32 (s : Int), .int .u16 (n : Int), .string gg, .string mm, .slice A L cc]) (hc : c' < 4294967296) (hs : s' < 4294967296) (hn : n' < 65536) :
    OpReads w B ⟨c', s', n', g, m, l⟩ #[.int .u32 (c' : Int), .int .u32 (s' : Int), .int .u16 (n' : Int), .string gg, .string mm, .slice A L cc] := by
  obtain ⟨A0, cc0, xs, css, hcs, hr, hx, hxs, hll, hok, -, -, -⟩ := h
  dsimp only at hcs hr hx hxs hll hok
  simp only [Array.mk.injEq, List.cons.injEq, Value.string.injEq, Value.slice.injEq, and_true, true_and] at hcs
  obtain ⟨rfl, rfl, rfl, rfl, rfl⟩ := hcs
  exact ⟨A, cc, xs, css, rfl, hr, hx, hxs, hll, hok, hc, hs, hn⟩
theorem OpHeld.id {w : World} {P : Nat → Prop} {c s n c' s' n' L cc : Nat} {g m : List UInt8} {l : List Val} {gg mm : ByteArray} {A : Option Addr} (h : OpHeld w P ⟨c, s, n, g, m, l⟩ #[.int .u32 (c : Int), .int .u32 (s : Int), .int .u16 (n : Int), .string gg, .string mm, .slice A L cc]) (hc : c' < 4294967296) (hs : s' < 4294967296) (hn : n' < 65536) :
    OpHeld w P ⟨c', s', n', g, m, l⟩ #[.int .u32 (c' : Int), .int .u32 (s' : Int), .int .u16 (n' : Int), .string gg, .string mm, .slice A L cc] := fun S W hu hS => (h S W hu hS).id hc hs hn

/-- A call as the seat makes it. -/
structure OpOk (o : OpD) : Prop where
  all : ∀ v ∈ o.l, SeatV 2 1102 v
  len : o.l.length ≤ 6
  g : o.g.length ≤ 8
  m : o.m.length ≤ 8
  c : o.c < 10
  s : o.s ≤ 1000
  n : o.n = 0
/-- A row of calls that a walk builds, in blocks from b on. -/
structure OpsP (w : World) (b : Nat) (A : Option Addr) (c : Nat) (os : List OpD) (xs : List Value) (css : Nat → Array Value) : Prop where
  ho : Own w 62 6 A os.length c xs
  hA : ∀ g, bOf A = some g → b ≤ g
  hx : ∀ j x, os[j]? = some x → OpHeld w (fun g => g < b ∨ some g = bOf A) x (css j)
  hxs : ∀ j x, os[j]? = some x → (xs.drop (j * 6)).take 6 = (css j).toList
theorem OpsP.nil (w : World) (b : Nat) : OpsP w b none 0 [] [] (fun _ => #[]) := ⟨Own.none_, by simp [bOf], by simp, by simp⟩
theorem OpsP.below {w w' : World} {b : Nat} {A : Option Addr} {c : Nat} {os : List OpD} {xs : List Value} {css : Nat → Array Value} (h : OpsP w b A c os xs css) (hb : Below w.heap.size w w') : OpsP w' b A c os xs css :=
  ⟨h.ho.below hb (Nat.le_refl _), h.hA, fun j x hj => (h.hx j x hj).next (T := fun _ => False) (Upd.of_below_size hb) (fun _ _ hf => hf.elim) (fun _ _ hp => hp), h.hxs⟩
theorem OpsP.push {w w7 w8 : World} {b c8 : Nat} {A8 : Option Addr} {o : OpD} {cs : Array Value} {A : Option Addr} {c : Nat} {os : List OpD} {xs : List Value} {css : Nat → Array Value} (h : OpsP w b A c os xs css) (hbw : b ≤ w.heap.size) (hb : Below w.heap.size w w7)
    (ho8 : Own w8 62 6 A8 (os.length + 1) c8 (xs ++ cs.toList)) (hg8 : w7.grownBy w8 (bOf A)) (hat : bOf A8 = bOf A ∨ bOf A8 = some w7.heap.size) (hop : OpHeld w7 (fun g => g < w.heap.size) o cs) :
    OpsP w8 b A8 c8 (os ++ [o]) (xs ++ cs.toList) (fun k => if k = os.length then cs else css k) := by
  have hlx := h.ho.len
  have h7 := hb.size
  have hu7 : Upd (fun g => some g = bOf A) w7 w8 := (Upd.refl _ w7).grown hg8 (fun k e _ => e.symm)
  have hu : Upd (fun g => some g = bOf A) w w8 := (Upd.of_below_size hb).trans hu7 (fun _ _ e => e)
  have hcs : cs.toList.length = 6 := by
    obtain ⟨_, _, _, _, rfl, _⟩ := hop.reads
    rfl
  refine ⟨by rw [List.length_append]; exact ho8, fun g hg => ?_, fun j x hj => ?_, fun j x hj => ?_⟩
  · rcases hat with e | e <;> rw [e] at hg
    · exact h.hA g hg
    · cases hg; omega
  · rcases Nat.lt_trichotomy j os.length with hjl | hjl | hjl
    · rw [if_neg (by omega)]
      rw [List.getElem?_append_left hjl] at hj
      refine (h.hx j x hj).next hu (fun g _ e => .inr e) (fun g hg hp => ?_)
      rcases hp with hp | hp
      · exact .inl hp
      · rcases hat with e | e <;> rw [e] at hp
        · exact .inr hp
        · cases hp; omega
    · subst hjl
      rw [if_pos rfl]
      simp at hj
      subst hj
      refine hop.next hu7 (fun g _ e => h.ho.lt e.symm) (fun g hg hp => ?_)
      rcases hp with hp | hp
      · omega
      · rcases hat with e | e <;> rw [e] at hp
        · exact h.ho.lt hp.symm
        · cases hp; omega
    · rw [List.getElem?_eq_none (by simp; omega)] at hj; cases hj
  · rcases Nat.lt_trichotomy j os.length with hjl | hjl | hjl
    · rw [if_neg (by omega)]
      rw [List.getElem?_append_left hjl] at hj
      rw [← h.hxs j x hj, List.drop_append_of_le_length (by omega), List.take_append_of_le_length (by rw [List.length_drop]; omega)]
    · subst hjl
      rw [if_pos rfl]
      simp at hj
      subst hj
      rw [List.drop_left' hlx]
      exact List.take_of_length_le (by omega)
    · rw [List.getElem?_eq_none (by simp; omega)] at hj; cases hj
def OpsRes (w : World) (N : Nat) (e : Ending) (w' : World) : Prop :=
  ∃ (os : List OpD) (A : Option Addr) (c : Nat) (xs : List Value) (css : Nat → Array Value), e = .returned (.slice A N c) ∧ os.length = N ∧ (∀ o ∈ os, OpOk o) ∧ OpsP w' w.heap.size A c os xs css ∧ Below w.heap.size w w'
structure OpRel (w wr : World) (os : List OpD) (j : Nat) (A : Option Addr) (c : Nat) (xs : List Value) (css : Nat → Array Value) : Prop where
  P : OpsP wr w.heap.size A c os xs css
  hj : os.length = j
  ok : ∀ o ∈ os, OpOk o
  hb : Below w.heap.size w wr

end Go.Proofs.Ytgdhiihfcngjbaa
