/- Rows of calls that are built one by one; choirseat.Made. -/
import Derived.Test.YtlkokkbikkbaoaaSt7
set_option linter.unusedSimpArgs false
set_option linter.unusedVariables false
set_option linter.unusedSimpArgs false
set_option linter.unusedVariables false
namespace Go.Proofs.Ytlkokkbikkbaoaa
open Go.RowKit
set_option maxRecDepth 100000

theorem info_op : (Try.prog.info? 38).map (fun i => (i.zero, i.size, i.bytes)) = some (some (.agg #[.int .u32 0, .int .u32 0, .int .u16 0, .string ⟨#[]⟩, .string ⟨#[]⟩, .slice none 0 0]), 6, 72) := by kernel_rfl
/-- A call that is read as long as no block turns but those of P, and new ones. -/
def OpHeld (w : World) (P : Nat → Prop) (o : OpD) (cs : Array Value) : Prop := ∀ (S : Nat → Prop) (W : World), Upd S w W → (∀ g, S g → P g) → OpReads W W.heap.size o cs
theorem OpHeld.next {w w2 : World} {P P' T : Nat → Prop} {o : OpD} {cs : Array Value} (h : OpHeld w P o cs) (hu : Upd T w w2) (hT : ∀ g, g < w.heap.size → T g → P g) (hP : ∀ g, g < w.heap.size → P' g → P g) : OpHeld w2 P' o cs :=
  fun S W hW hS => h (fun g => g < w.heap.size ∧ (S g ∨ T g)) W ((hu.mono (T := fun g => g < w.heap.size ∧ (S g ∨ T g)) (fun k hk ht => ⟨hk, .inr ht⟩)).trans hW (fun i hi hs => ⟨hi, .inl hs⟩))
    (fun g hg => hg.2.elim (fun hs => hP g hg.1 (hS g hs)) (fun ht => hT g hg.1 ht))
theorem OpHeld.reads {w : World} {P : Nat → Prop} {o : OpD} {cs : Array Value} (h : OpHeld w P o cs) : OpReads w w.heap.size o cs := h (fun _ => False) w (Upd.refl _ w) (fun _ hf => hf.elim)
theorem held_of_row {w w' : World} {o : OpD} {A' : Option Addr} {c' L : Nat} {xs : List Value} {css : Nat → Array Value} (R : VRow w' w.heap.size o.l A' c' xs css) (hL : o.l.length = L) (h16 : L ≤ 2199023255488) (hok : ∀ v ∈ o.l, OkV v) (h1 : o.c < 4294967296) (h2 : o.s < 4294967296) (h3 : o.n < 65536) :
    OpHeld w' (fun g => g < w.heap.size) o #[.int .u32 (o.c : Int), .int .u32 (o.s : Int), .int .u16 (o.n : Int), .string (bstr o.g), .string (bstr o.m), .slice A' L c'] :=
  fun S W hu hS => opread_reads (w := w) (R.upd hu (fun g hg hs => by have h := hS g hs; omega)) hL h16 hok h1 h2 h3


/-- The same call under another id. -/
theorem OpReads.id {w : World} {B c s n c' s' n' L cc : Nat} {g m : List UInt8} {l : List Val} {gg mm : ByteArray} {A : Option Addr} (h : OpReads w B ⟨c, s, n, g, m, l⟩ #[.int .u32 (c : Int), .int .u32 (s : Int), .int .u16 (n : Int), .string gg, .string mm, .slice A L cc]) (hc : c' < 4294967296) (hs : s' < 4294967296) (hn : n' < 65536) :
    OpReads w B ⟨c', s', n', g, m, l⟩ #[.int .u32 (c' : Int), .int .u32 (s' : Int), .int .u16 (n' : Int), .string gg, .string mm, .slice A L cc] := by
  obtain ⟨A0, cc0, xs, css, hcs, hr, hx, hxs, hll, hok, -, -, -⟩ := h
  dsimp only at hcs hr hx hxs hll hok
  simp only [Array.mk.injEq, List.cons.injEq, Value.string.injEq, Value.slice.injEq, and_true, true_and] at hcs
  obtain ⟨rfl, rfl, rfl, rfl, rfl⟩ := hcs
  exact ⟨A, cc, xs, css, rfl, hr, hx, hxs, hll, hok, hc, hs, hn⟩
theorem OpHeld.id {w : World} {P : Nat → Prop} {c s n c' s' n' L cc : Nat} {g m : List UInt8} {l : List Val} {gg mm : ByteArray} {A : Option Addr} (h : OpHeld w P ⟨c, s, n, g, m, l⟩ #[.int .u32 (c : Int), .int .u32 (s : Int), .int .u16 (n : Int), .string gg, .string mm, .slice A L cc]) (hc : c' < 4294967296) (hs : s' < 4294967296) (hn : n' < 65536) :
    OpHeld w P ⟨c', s', n', g, m, l⟩ #[.int .u32 (c' : Int), .int .u32 (s' : Int), .int .u16 (n' : Int), .string gg, .string mm, .slice A L cc] := fun S W hu hS => (h S W hu hS).id hc hs hn

/-- A call as the seat makes it. -/
structure OpOk (o : OpD) : Prop where
  all : ∀ v ∈ o.l, SeatV 2 1102 v
  len : o.l.length ≤ 6
  g : o.g.length ≤ 8
  m : o.m.length ≤ 8
  c : o.c < 10
  s : o.s ≤ 1000
  n : o.n = 0
/-- A row of calls that a walk builds, in blocks from b on. -/
structure OpsP (w : World) (b : Nat) (A : Option Addr) (c : Nat) (os : List OpD) (xs : List Value) (css : Nat → Array Value) : Prop where
  ho : Own w 38 6 A os.length c xs
  hA : ∀ g, bOf A = some g → b ≤ g
  hx : ∀ j x, os[j]? = some x → OpHeld w (fun g => g < b ∨ some g = bOf A) x (css j)
  hxs : ∀ j x, os[j]? = some x → (xs.drop (j * 6)).take 6 = (css j).toList
theorem OpsP.nil (w : World) (b : Nat) : OpsP w b none 0 [] [] (fun _ => #[]) := ⟨Own.none_, by simp [bOf], by simp, by simp⟩
theorem OpsP.below {w w' : World} {b : Nat} {A : Option Addr} {c : Nat} {os : List OpD} {xs : List Value} {css : Nat → Array Value} (h : OpsP w b A c os xs css) (hb : Below w.heap.size w w') : OpsP w' b A c os xs css :=
  ⟨h.ho.below hb (Nat.le_refl _), h.hA, fun j x hj => (h.hx j x hj).next (T := fun _ => False) (Upd.of_below_size hb) (fun _ _ hf => hf.elim) (fun _ _ hp => hp), h.hxs⟩
theorem OpsP.push {w w7 w8 : World} {b c8 : Nat} {A8 : Option Addr} {o : OpD} {cs : Array Value} {A : Option Addr} {c : Nat} {os : List OpD} {xs : List Value} {css : Nat → Array Value} (h : OpsP w b A c os xs css) (hbw : b ≤ w.heap.size) (hb : Below w.heap.size w w7)
    (ho8 : Own w8 38 6 A8 (os.length + 1) c8 (xs ++ cs.toList)) (hg8 : w7.grownBy w8 (bOf A)) (hat : bOf A8 = bOf A ∨ bOf A8 = some w7.heap.size) (hop : OpHeld w7 (fun g => g < w.heap.size) o cs) :
    OpsP w8 b A8 c8 (os ++ [o]) (xs ++ cs.toList) (fun k => if k = os.length then cs else css k) := by
  have hlx := h.ho.len
  have h7 := hb.size
  have hu7 : Upd (fun g => some g = bOf A) w7 w8 := (Upd.refl _ w7).grown hg8 (fun k e _ => e.symm)
  have hu : Upd (fun g => some g = bOf A) w w8 := (Upd.of_below_size hb).trans hu7 (fun _ _ e => e)
  have hcs : cs.toList.length = 6 := by
    obtain ⟨_, _, _, _, rfl, _⟩ := hop.reads
    rfl
  refine ⟨by rw [List.length_append]; exact ho8, fun g hg => ?_, fun j x hj => ?_, fun j x hj => ?_⟩
  · rcases hat with e | e <;> rw [e] at hg
    · exact h.hA g hg
    · cases hg; omega
  · rcases Nat.lt_trichotomy j os.length with hjl | hjl | hjl
    · rw [if_neg (by omega)]
      rw [List.getElem?_append_left hjl] at hj
      refine (h.hx j x hj).next hu (fun g _ e => .inr e) (fun g hg hp => ?_)
      rcases hp with hp | hp
      · exact .inl hp
      · rcases hat with e | e <;> rw [e] at hp
        · exact .inr hp
        · cases hp; omega
    · subst hjl
      rw [if_pos rfl]
      simp at hj
      subst hj
      refine hop.next hu7 (fun g _ e => h.ho.lt e.symm) (fun g hg hp => ?_)
      rcases hp with hp | hp
      · omega
      · rcases hat with e | e <;> rw [e] at hp
        · exact h.ho.lt hp.symm
        · cases hp; omega
    · rw [List.getElem?_eq_none (by simp; omega)] at hj; cases hj
  · rcases Nat.lt_trichotomy j os.length with hjl | hjl | hjl
    · rw [if_neg (by omega)]
      rw [List.getElem?_append_left hjl] at hj
      rw [← h.hxs j x hj, List.drop_append_of_le_length (by omega), List.take_append_of_le_length (by rw [List.length_drop]; omega)]
    · subst hjl
      rw [if_pos rfl]
      simp at hj
      subst hj
      rw [List.drop_left' hlx]
      exact List.take_of_length_le (by omega)
    · rw [List.getElem?_eq_none (by simp; omega)] at hj; cases hj
def OpsRes (w : World) (N : Nat) (e : Ending) (w' : World) : Prop :=
  ∃ (os : List OpD) (A : Option Addr) (c : Nat) (xs : List Value) (css : Nat → Array Value), e = .returned (.slice A N c) ∧ os.length = N ∧ (∀ o ∈ os, OpOk o) ∧ OpsP w' w.heap.size A c os xs css ∧ Below w.heap.size w w'
structure OpRel (w wr : World) (os : List OpD) (j : Nat) (A : Option Addr) (c : Nat) (xs : List Value) (css : Nat → Array Value) : Prop where
  P : OpsP wr w.heap.size A c os xs css
  hj : os.length = j
  ok : ∀ o ∈ os, OpOk o
  hb : Below w.heap.size w wr

set_option maxHeartbeats 12800000 in
theorem made_walk (w : World) {K : Int} (k0 : 0 ≤ K) (k9 : K ≤ 255) : Calls Try.prog 10 #[.int .u8 K] w (OpsRes w 6) := by
  obtain ⟨i0, hi, hz0, hz1, hz2⟩ := info_parts info_op
  have htm : K.tmod 2 = K % 2 := Int.tmod_eq_emod_of_nonneg k0
  obtain ⟨k2, hk2⟩ : ∃ k2 : Nat, K % 2 = (k2 : Int) := ⟨(K % 2).toNat, by omega⟩
  have hk21 : k2 ≤ 1 := by omega
  have w2' : IntKind.u8.wrap (k2 : Int) = (k2 : Int) := by unfold IntKind.wrap; simp [IntKind.bits, IntKind.signed]; omega
  have wr8 : ∀ x : Int, 0 ≤ IntKind.u8.wrap x ∧ IntKind.u8.wrap x ≤ 255 := fun x => by
    unfold IntKind.wrap
    simp [IntKind.bits, IntKind.signed]
    omega
  replace wr8 := Lib.hid wr8
  go_enter Try.func10, Try.ntmps10
  go_wp2_with fail
  go_loopw [3, 4] (fun s3 s4 wr => ∃ (os : List OpD) (j : Nat) (A1 : Option Addr) (c1 : Nat) (xs1 : List Value) (css1 : Nat → Array Value), s3 = .slice A1 j c1 ∧ s4 = .int .i64 (j : Int) ∧ j ≤ 6 ∧ OpRel w wr os j A1 c1 xs1 css1) (fun _ i _ => 6 - (intOf i).toNat)
  case atStart => exact ⟨[], 0, none, 0, [], _, rfl, rfl, Nat.zero_le _, OpsP.nil _ _, rfl, by simp, Below.refl _ _⟩
  case round =>
    obtain ⟨os, j, A1, c1, xs1, css1, rfl, rfl, hj, R⟩ := hrel
    have hnw : IntKind.i64.wrap ((j : Int) + 1) = ((j + 1 : Nat) : Int) := by rw [IntKind.wrap_i64]; omega
    by_cases hlt : j < 6
    · have d2 : decide ((j : Int) < 6) = true := decide_eq_true (by omega)
      have d2' : decide (j < 6) = true := decide_eq_true hlt
      have hbr := R.hb
      have hown := R.P.ho
      rw [R.hj] at hown
      replace R := Lib.hid R
      replace hown := Lib.hid hown
      have wj8 : IntKind.u8.wrap (j : Int) = (j : Int) := by unfold IntKind.wrap; simp [IntKind.bits, IntKind.signed]; omega
      go_wp2_with fail
      refine (names_walk wr).mono ?_
      rintro e w3 ⟨rfl, hst3, hb3'⟩
      try dsimp only
      obtain ⟨ad4, t4, e4, ht4, hcell4⟩ := hst3.cell hlt
      cases e4
      obtain ⟨T4, hT4⟩ : ∃ T4, bstr t4 = T4 := ⟨_, rfl⟩
      have hT4s : T4.size ≤ 100 := by rw [← hT4, bstr_len]; omega
      have hc4 := hcell4 w3 (Below.refl _ _)
      rw [hT4, show (⟨wr.heap.size, 0, none⟩ : Addr).add j = ⟨wr.heap.size, j, none⟩ by simp [Addr.add]; try omega] at hc4
      clear hcell4
      go_wp2_with fail
      clear hc4
      refine (text_any w3 hT4s).mono ?_
      rintro e w4 ⟨v4, cs4, rfl, hv4, hs4, hb4'⟩
      obtain ⟨k4, i4, f4, s4, A4, n4, c4, rfl⟩ := hv4.reads.form
      try dsimp only
      go_wp2_with fail
      refine (class_walk w4 (k := (j : Int)) (by omega) (by omega)).mono ?_
      rintro e w5 ⟨⟨S5, rfl, hS5⟩, hb5'⟩
      try dsimp only
      have hS5s : S5.size ≤ 100 := by
        obtain ⟨c, hc, rfl⟩ := hS5
        have hlc : c.length ≤ 8 := by
          simp only [classes, List.mem_cons, List.not_mem_nil, or_false] at hc
          rcases hc with rfl | rfl | rfl | rfl | rfl | rfl <;> decide
        rw [bstr_len]; omega
      go_wp2_with fail
      refine (text_any w5 hS5s).mono ?_
      rintro e w6 ⟨v6, cs6, rfl, hv6, hs6, hb6'⟩
      obtain ⟨k6, i6, f6, s6, A6, n6, c6, rfl⟩ := hv6.reads.form
      try dsimp only
      go_wp2_with fail
      refine (seat_style_walk w6 (k := (K + (j : Int) * ((k2 : Int) + 1)) % 256) (Int.emod_nonneg _ (by decide)) (by have := Int.emod_lt_of_pos (K + (j : Int) * ((k2 : Int) + 1)) (show (0 : Int) < 256 by decide); omega)).mono ?_
      rintro e w8 ⟨v8, cs8, rfl, hv8, hs8, hb8'⟩
      obtain ⟨k8, i8, f8, s8, A8, n8, c8, rfl⟩ := hv8.reads.form
      try dsimp only
      have hS6 := below_then hb6' hb5'
      have hS8 := below_then hb8' (below_then hS6 hb4')
      have hu4 := ((hv4.upd (Upd.of_below_size (S := fun _ => False) hS6) (fun _ _ h => h)).upd (Upd.of_below_size (S := fun _ => False) hb8') (fun _ _ h => h)).mono (Q := fun g => wr.heap.size ≤ g) (fun g _ hg => Nat.le_trans hb3'.size hg)
      have hu6 := (hv6.upd (Upd.of_below_size (S := fun _ => False) hb8') (fun _ _ h => h)).mono (Q := fun g => wr.heap.size ≤ g) (fun g _ hg => Nat.le_trans (Nat.le_trans hb3'.size (Nat.le_trans hb4'.size hb5'.size)) hg)
      have hu8 := hv8.mono (Q := fun g => wr.heap.size ≤ g) (fun g _ hg => Nat.le_trans (Nat.le_trans hb3'.size (Nat.le_trans hb4'.size hS6.size)) hg)
      have hbr8 := below_then hS8 hb3'
      have Rv := row_three hu4 hu6 hu8 hbr8.size
      have hb9 := hbr8.alloc hbr8.size (.cells #[.int .i64 k4, .int .i64 i4, .float .f64 f4, .string s4, .slice A4 n4 c4, .int .i64 k6, .int .i64 i6, .float .f64 f6, .string s6, .slice A6 n6 c6, .int .i64 k8, .int .i64 i8, .float .f64 f8, .string s8, .slice A8 n8 c8] 64)
      obtain ⟨g8, hg8⟩ : ∃ g, w8.heap.size = g := ⟨_, rfl⟩
      rw [hg8] at Rv
      have hO := held_of_row (w := wr) (o := ⟨0, 0, 0, [103, 114, 111, 117, 112, 115], [99, 114, 101, 97, 116, 101], [v4, v6, v8]⟩) (L := 3) Rv rfl (by decide) (all_3 hs4.ok hs6.ok hs8.ok) (by show 0 < _; decide) (by show 0 < _; decide) (by show 0 < _; decide)
      have hok8 : OpOk ⟨0, 0, 0, [103, 114, 111, 117, 112, 115], [99, 114, 101, 97, 116, 101], [v4, v6, v8]⟩ := ⟨all_3 (hs4.mono (by decide) (by decide)) (hs6.mono (by decide) (by decide)) (hs8.mono (by decide) (by decide)), by show 3 ≤ 6; decide, by show 6 ≤ 8; decide, by show 6 ≤ 8; decide, by show 0 < 10; decide, by show 0 ≤ 1000; decide, rfl⟩
      generalize hw9 : w8.alloc (.cells #[.int .i64 k4, .int .i64 i4, .float .f64 f4, .string s4, .slice A4 n4 c4, .int .i64 k6, .int .i64 i6, .float .f64 f6, .string s6, .slice A6 n6 c6, .int .i64 k8, .int .i64 i8, .float .f64 f8, .string s8, .slice A8 n8 c8] 64) = w9 at *
      have hsrc := Reads.lit (size := 6) w9 #[.int .u32 0, .int .u32 0, .int .u16 0, .string ⟨#[103, 114, 111, 117, 112, 115]⟩, .string ⟨#[99, 114, 101, 97, 116, 101]⟩, .slice (some ⟨g8, 0, none⟩) 3 3] 38 (0, 0) 1 [.int .u32 0, .int .u32 0, .int .u16 0, .string ⟨#[103, 114, 111, 117, 112, 115]⟩, .string ⟨#[99, 114, 101, 97, 116, 101]⟩, .slice (some ⟨g8, 0, none⟩) 3 3] rfl rfl
      have hb10 := hb9.alloc hb9.size (.cells #[.int .u32 0, .int .u32 0, .int .u16 0, .string ⟨#[103, 114, 111, 117, 112, 115]⟩, .string ⟨#[99, 114, 101, 97, 116, 101]⟩, .slice (some ⟨g8, 0, none⟩) 3 3] 38)
      have hO10 : OpHeld (w9.alloc (.cells #[.int .u32 0, .int .u32 0, .int .u16 0, .string ⟨#[103, 114, 111, 117, 112, 115]⟩, .string ⟨#[99, 114, 101, 97, 116, 101]⟩, .slice (some ⟨g8, 0, none⟩) 3 3] 38)) (fun g => g < wr.heap.size) ⟨0, 0, 0, [103, 114, 111, 117, 112, 115], [99, 114, 101, 97, 116, 101], [v4, v6, v8]⟩ #[.int .u32 0, .int .u32 0, .int .u16 0, .string ⟨#[103, 114, 111, 117, 112, 115]⟩, .string ⟨#[99, 114, 101, 97, 116, 101]⟩, .slice (some ⟨g8, 0, none⟩) 3 3] := OpHeld.next hO (T := fun _ => False) ((Upd.refl _ w9).alloc _) (fun _ _ hf => hf.elim) (fun g _ hg => hg)
      have ho10' := hown.out.below hb10 (Nat.le_refl _)
      replace hO10 := Lib.hid hO10
      clear hO Rv hu4 hu6 hu8 hv4 hv6 hv8
      go_wp2_with (at_builtin; go_must (refine wpList_append_mine rfl _ _ 24 24 rfl 38 i0 _ 6 72 Try.underlying24 hi hz0 hz1 hz2 rfl rfl ho10' rfl (Src.ofReads Try.underlying24 _ hsrc (by intro u hu; simp only [List.mem_cons, List.not_mem_nil, or_false] at hu; rcases hu with rfl | rfl | rfl | rfl | rfl | rfl <;> rfl)) (by unfold maxLen; omega) (by omega) (fun A10 c10 w10 ho10 hg10 hat10 => ?_)))
      have P10 := R.out.P.push hbr.size hb10 (by rw [R.out.hj]; exact ho10) hg10 hat10 hO10.out
      have hbn := (below_then hb10 hbr).grown hg10 (Nat.le_trans hbr.size hb10.size) (fun g hg => R.out.P.hA g hg)
      exact ⟨⟨_, j + 1, A10, c10, _, _, by simp, by simp [hnw], by omega, P10, by simp [R.out.hj], fun o ho => by
        rcases List.mem_append.1 ho with h | h
        · exact R.out.ok o h
        · cases List.mem_singleton.1 h; exact hok8, hbn⟩, by simp [intOf]; omega⟩
    · have hj' : j = 6 := by omega
      subst hj'
      go_wp2_with fail
      go_ret
      exact ⟨os, A1, c1, xs1, css1, rfl, R.hj, R.ok, R.P, R.hb⟩
end Go.Proofs.Ytlkokkbikkbaoaa
