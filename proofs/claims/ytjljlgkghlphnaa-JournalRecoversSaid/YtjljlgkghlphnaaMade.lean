/- choirlaw21.made: records of any kind, one behind another. -/
import Derived.Test.YtjljlgkghlphnaaJArg2
import Derived.Test.YtjljlgkghlphnaaJ3
import Derived.Test.YtjljlgkghlphnaaJPl2
set_option linter.unusedSimpArgs false
set_option linter.unusedVariables false
namespace Go.Proofs.Ytjljlgkghlphnaa
open Go.RowKit
set_option maxRecDepth 100000

theorem info_rec : (Try.prog.info? 32).map (fun i => (i.zero, i.size, i.bytes)) = some (some (.agg #[.int .i64 0, .int .u64 0, .int .i64 0, .int .u32 0, .int .u32 0, .int .u16 0, .string ⟨#[]⟩, .string ⟨#[]⟩, .slice none 0 0]), 9, 96) := by kernel_rfl
/-- The nine cells of a row's element. -/
theorem cells9 {W : World} {B : Nat} {ad : Addr} {N : Nat} {xs : List Value} {j : Nat} {a0 a1 a2 a3 a4 a5 a6 a7 a8 : Value} (h : Reads W B 9 (some ad) N xs) (hj : j < N) (hx : (xs.drop (j * 9)).take 9 = [a0, a1, a2, a3, a4, a5, a6, a7, a8]) :
    W.cell? (ad.add (j * 9)) = some (a0) ∧ W.cell? ⟨(ad.add (j * 9)).block, (ad.add (j * 9)).off + 1, none⟩ = some (a1) ∧ W.cell? ⟨(ad.add (j * 9)).block, (ad.add (j * 9)).off + 2, none⟩ = some (a2) ∧ W.cell? ⟨(ad.add (j * 9)).block, (ad.add (j * 9)).off + 3, none⟩ = some (a3) ∧ W.cell? ⟨(ad.add (j * 9)).block, (ad.add (j * 9)).off + 4, none⟩ = some (a4) ∧ W.cell? ⟨(ad.add (j * 9)).block, (ad.add (j * 9)).off + 5, none⟩ = some (a5) ∧ W.cell? ⟨(ad.add (j * 9)).block, (ad.add (j * 9)).off + 6, none⟩ = some (a6) ∧ W.cell? ⟨(ad.add (j * 9)).block, (ad.add (j * 9)).off + 7, none⟩ = some (a7) ∧ W.cell? ⟨(ad.add (j * 9)).block, (ad.add (j * 9)).off + 8, none⟩ = some (a8) := by
  obtain ⟨ad', e, -, hc⟩ := h.2 (by omega)
  cases e
  have hg : ∀ i u, [a0, a1, a2, a3, a4, a5, a6, a7, a8][i]? = some u → W.cell? (ad.add (j * 9 + i)) = some u := fun i u hi => by
    rw [← hx, List.getElem?_take] at hi
    split at hi
    · rw [List.getElem?_drop] at hi; exact hc _ u hi
    · cases hi
  have e := fun k => add_pos ad (j * 9) k
  refine ⟨hg 0 _ rfl, ?_, ?_, ?_, ?_, ?_, ?_, ?_, ?_⟩
  · rw [← e 0]; exact hg 1 _ rfl
  · rw [← e 1]; exact hg 2 _ rfl
  · rw [← e 2]; exact hg 3 _ rfl
  · rw [← e 3]; exact hg 4 _ rfl
  · rw [← e 4]; exact hg 5 _ rfl
  · rw [← e 5]; exact hg 6 _ rfl
  · rw [← e 6]; exact hg 7 _ rfl
  · rw [← e 7]; exact hg 8 _ rfl

/-- The cells of a record whose call's memory is older than a world. -/
def RecW (w : World) (r : RecD) (cs : Array Value) : Prop :=
  ∃ (gg mm : ByteArray) (A : Option Addr) (K cc : Nat), cs = #[.int .i64 r.k, .int .u64 (r.v : Int), .int .i64 r.n, .int .u32 (r.o.c : Int), .int .u32 (r.o.s : Int), .int .u16 (r.o.n : Int), .string gg, .string mm, .slice A K cc] ∧
    OpReads w w.heap.size r.o #[.int .u32 (r.o.c : Int), .int .u32 (r.o.s : Int), .int .u16 (r.o.n : Int), .string gg, .string mm, .slice A K cc] ∧ r.v < 18446744073709551616
structure MdRel (w wr : World) (N j : Nat) (A1 : Option Addr) (c1 : Nat) (xs1 : List Value) (css1 : Nat → Array Value) (l1 : List RecD) (vw : Nat) (n su : Int) : Prop where
  jN : j ≤ N
  ll : l1.length = j
  ho : Own wr 32 9 A1 j c1 xs1
  hA : ∀ g, bOf A1 = some g → w.heap.size ≤ g
  hx : ∀ i x, l1[i]? = some x → RecW w x (css1 i)
  hxs : ∀ i, i < j → (xs1.drop (i * 9)).take 9 = (css1 i).toList
  hv : vw < 18446744073709551616
  h0 : 0 ≤ su ∧ su ≤ n ∧ n ≤ j
  hb : Below w.heap.size w wr
theorem MdRel.push {w wr w2 : World} {N j : Nat} {A1 A2 : Option Addr} {c1 c2 : Nat} {xs1 : List Value} {css1 : Nat → Array Value} {l1 : List RecD} {vw vw2 : Nat} {n su n2 su2 : Int} {r : RecD} {cs : Array Value} (h : MdRel w wr N j A1 c1 xs1 css1 l1 vw n su) (hj : j < N) (hr : RecW w r cs)
    (ho : Own w2 32 9 A2 (j + 1) c2 (xs1 ++ cs.toList)) (hA : ∀ g, bOf A2 = some g → w.heap.size ≤ g) (hb : Below w.heap.size w w2) (hv : vw2 < 18446744073709551616) (h0 : 0 ≤ su2 ∧ su2 ≤ n2 ∧ n2 ≤ ((j + 1 : Nat) : Int)) :
    MdRel w w2 N (j + 1) A2 c2 (xs1 ++ cs.toList) (fun k => if k = j then cs else css1 k) (l1 ++ [r]) vw2 n2 su2 := by
  have hxl := h.ho.1
  have hcs : cs.toList.length = 9 := by
    obtain ⟨_, _, _, _, _, rfl, _⟩ := hr
    rfl
  refine ⟨by omega, by rw [List.length_append, h.ll]; rfl, ho, hA, fun i x hi => ?_, fun i hi => ?_, hv, h0, hb⟩
  · try dsimp only
    rcases Nat.lt_trichotomy i j with hij | hij | hij
    · rw [if_neg (by omega)]
      rw [List.getElem?_append_left (by rw [h.ll]; exact hij)] at hi
      exact h.hx i x hi
    · subst hij
      rw [if_pos rfl]
      rw [List.getElem?_append_right (by rw [h.ll]; omega), h.ll] at hi
      simp at hi
      subst hi
      exact hr
    · rw [List.getElem?_eq_none (by rw [List.length_append, h.ll]; simp; omega)] at hi; cases hi
  · try dsimp only
    rcases Nat.lt_or_ge i j with hij | hij
    · rw [if_neg (by omega), ← h.hxs i hij, List.drop_append_of_le_length (by omega), List.take_append_of_le_length (by rw [List.length_drop]; omega)]
    · have : i = j := by omega
      subst this
      rw [if_pos rfl, List.drop_left' hxl]
      exact List.take_of_length_le (by omega)

/-- What 'made' tells: a row of its own. -/
def MadeRes (w : World) (N : Nat) (e : Ending) (w' : World) : Prop :=
  ∃ (A1 : Option Addr) (c1 : Nat) (xs1 : List Value) (css1 : Nat → Array Value) (l1 : List RecD), e = .returned (.slice A1 N c1) ∧ l1.length = N ∧ Own w' 32 9 A1 N c1 xs1 ∧ (∀ i x, l1[i]? = some x → RecW w x (css1 i)) ∧ (∀ i, i < N → (xs1.drop (i * 9)).take 9 = (css1 i).toList) ∧ Below w.heap.size w w'

set_option maxHeartbeats 12800000 in
theorem made_walk {A0 : Option Addr} {c0 : Nat} {l : List RecD} {xs : List Value} {css : Nat → Array Value} {w : World} (h : RowRec w A0 l xs css) (hl : l.length ≤ 20) :
    Calls Try.prog 18 #[.slice A0 l.length c0] w (MadeRes w l.length) := by
  obtain ⟨i0, hi, hz0, hz1, hz2⟩ := info_parts info_rec
  obtain ⟨hr, hx, hxs⟩ := h
  obtain ⟨N, hN⟩ : ∃ N, l.length = N := ⟨_, rfl⟩
  rw [hN] at hr hxs hl ⊢
  replace hN := Lib.hid hN
  replace hr := Lib.hid hr
  replace hx := Lib.hid hx
  replace hxs := Lib.hid hxs
  go_enter Try.func18, Try.ntmps18
  go_wp2_with fail
  go_loopw [3, 4, 5, 6, 7] (fun s3 s4 s5 s6 s7 wr => ∃ (j : Nat) (A1 : Option Addr) (c1 : Nat) (xs1 : List Value) (css1 : Nat → Array Value) (l1 : List RecD) (vw : Nat) (n su : Int), s3 = .slice A1 j c1 ∧ s4 = .int .u64 (vw : Int) ∧ s5 = .int .i64 n ∧ s6 = .int .i64 su ∧ s7 = .int .i64 (j : Int) ∧ MdRel w wr N j A1 c1 xs1 css1 l1 vw n su) (fun _ _ _ _ s7 _ => N + 1 - (intOf s7).toNat)
  case atStart => exact ⟨0, none, 0, [], fun _ => #[], [], 0, 0, 0, rfl, rfl, rfl, rfl, rfl, ⟨Nat.zero_le _, rfl, Own.none_, by simp [bOf], by simp, fun i hi => absurd hi (by omega), by decide, by decide, Below.refl _ _⟩⟩
  case round =>
    obtain ⟨j, A1, c1, xs1, css1, l1, vw, en, su, rfl, rfl, rfl, rfl, rfl, Rl⟩ := hrel
    by_cases hlt : j < N
    · have hxj : l[j]? = some (l[j]'(by rw [hN.out]; exact hlt)) := List.getElem?_eq_getElem _
      have hri := hx.out j _ hxj
      have hxr := hxs.out j hlt
      generalize l[j]'(by rw [hN.out]; exact hlt) = x at hxj hri
      obtain ⟨gg, mm, A, K, cc, hcs, hop, hv, -, -⟩ := hri
      obtain ⟨k, v, nn, ⟨c, s, n, g, m, ol⟩⟩ := x
      dsimp only at hcs hop hv
      rw [hcs] at hxr
      obtain ⟨ad, rfl, -, -⟩ := (hr.out).2 (by omega)
      have hg := cells9 (hr.out.below Rl.hb) hlt hxr
      have hjN := Rl.jN
      have h0 := Rl.h0
      have hvw := Rl.hv
      have ho2 := fun o => (Rl.ho.alloc o)
      have hAw := Rl.hA
      have hbr := Rl.hb
      have hbr2 := fun o => hbr.alloc hbr.size o
      have hy := fun k v n => (Blk.new wr 32 #[.int .i64 k, .int .u64 (v : Int), .int .i64 nn, .int .u32 (c : Int), .int .u32 (s : Int), .int .u16 (n : Int), .string gg, .string mm, .slice A K cc]).rec9
      have d2 : decide ((j : Int) < (N : Int)) = true := decide_eq_true (by omega)
      have hnw : IntKind.i64.wrap ((j : Int) + 1) = ((j + 1 : Nat) : Int) := by rw [IntKind.wrap_i64]; omega
      replace Rl := Lib.hid Rl
      replace hop := Lib.hid hop
      replace ho2 := Lib.hid ho2
      replace hbr2 := Lib.hid hbr2
      replace hAw := Lib.hid hAw
      clear hxr hcs hxj
      go_wp2_with fail
      clear hg
      refine (place_walk _ (by decide) (by decide)).mono ?_
      rintro e w3 ⟨⟨q, hq0, hq5, rfl⟩, rfl⟩
      try dsimp only
      by_cases hq : q = 0
      · subst hq
        clear hq0 hq5
        have hsrc := Reads.lit (size := 9) (wr.alloc (.cells #[.int .i64 0, .int .u64 (v : Int), .int .i64 nn, .int .u32 (c : Int), .int .u32 (s : Int), .int .u16 (n : Int), .string gg, .string mm, .slice A K cc] 32)) #[.int .i64 0, .int .u64 (v : Int), .int .i64 nn, .int .u32 (c : Int), .int .u32 (s : Int), .int .u16 (n : Int), .string gg, .string mm, .slice A K cc] 32 (0, 0) 1 [.int .i64 0, .int .u64 (v : Int), .int .i64 nn, .int .u32 (c : Int), .int .u32 (s : Int), .int .u16 (n : Int), .string gg, .string mm, .slice A K cc] rfl rfl
        rw [World.size_alloc] at hsrc
        have hone : ∀ y0 ∈ ([.int .i64 0, .int .u64 (v : Int), .int .i64 nn, .int .u32 (c : Int), .int .u32 (s : Int), .int .u16 (n : Int), .string gg, .string mm, .slice A K cc] : List Value), y0.oneCell' = true := by
          intro y0 hu
          simp only [List.mem_cons, List.not_mem_nil, or_false] at hu
          rcases hu with rfl | rfl | rfl | rfl | rfl | rfl | rfl | rfl | rfl <;> rfl
        have ho3 := (ho2.out (.cells #[.int .i64 0, .int .u64 (v : Int), .int .i64 nn, .int .u32 (c : Int), .int .u32 (s : Int), .int .u16 (n : Int), .string gg, .string mm, .slice A K cc] 32)).alloc (.cells #[.int .i64 0, .int .u64 (v : Int), .int .i64 nn, .int .u32 (c : Int), .int .u32 (s : Int), .int .u16 (n : Int), .string gg, .string mm, .slice A K cc] 32)
        have hb3 := (hbr2.out (.cells #[.int .i64 0, .int .u64 (v : Int), .int .i64 nn, .int .u32 (c : Int), .int .u32 (s : Int), .int .u16 (n : Int), .string gg, .string mm, .slice A K cc] 32)).alloc (hbr2.out (.cells #[.int .i64 0, .int .u64 (v : Int), .int .i64 nn, .int .u32 (c : Int), .int .u32 (s : Int), .int .u16 (n : Int), .string gg, .string mm, .slice A K cc] 32)).size (.cells #[.int .i64 0, .int .u64 (v : Int), .int .i64 nn, .int .u32 (c : Int), .int .u32 (s : Int), .int .u16 (n : Int), .string gg, .string mm, .slice A K cc] 32)
        have hyc := (Blk.new wr 32 #[.int .i64 0, .int .u64 (v : Int), .int .i64 nn, .int .u32 (c : Int), .int .u32 (s : Int), .int .u16 (n : Int), .string gg, .string mm, .slice A K cc]).rec9
        go_wp2_with (at_builtin; go_must (refine wpList_append_mine rfl _ _ 54 54 rfl 32 i0 _ 9 96 Try.underlying54 hi hz0 hz1 hz2 rfl rfl ho3 rfl (Src.ofReads Try.underlying54 _ hsrc hone) (by unfold maxLen; omega) (by omega) (fun A8 c8 w8 ho8 hg8 hat8 => ?_)))
        have hb8 := hb3.grown hg8 hb3.size (fun g hg => hAw.out g hg)
        have hA8 : ∀ g, bOf A8 = some g → w.heap.size ≤ g := fun g hg => by
          rcases hat8 with h | h <;> rw [h] at hg
          · exact hAw.out g hg
          · cases hg; exact hb3.size
        clear hyc hsrc ho3 hb3 hg8 hat8
        go_roundw
        case rel => exact ⟨j + 1, A8, c8, _, _, _, vw, en, su, rfl, rfl, rfl, rfl, rfl, Rl.out.push (r := ⟨0, v, nn, ⟨c, s, n, g, m, ol⟩⟩) hlt ⟨gg, mm, A, K, cc, rfl, hop.out, hv⟩ ho8 hA8 hb8 (by omega) (by omega)⟩
        case measure => simp [intOf]; omega
      by_cases hq : q = 1
      · subst hq
        clear hq0 hq5
        obtain ⟨u, hu, hub⟩ : ∃ u : Nat, IntKind.u64.wrap ((vw : Int) + (v : Int) % 3) = (u : Int) ∧ u < 18446744073709551616 := ⟨(IntKind.u64.wrap ((vw : Int) + (v : Int) % 3)).toNat, by unfold IntKind.wrap; simp [IntKind.bits, IntKind.signed]; omega, by unfold IntKind.wrap; simp [IntKind.bits, IntKind.signed]; omega⟩
        have hsrc := Reads.lit (size := 9) (wr.alloc (.cells #[.int .i64 1, .int .u64 (u : Int), .int .i64 (bits BinOp.and IntKind.i64 nn 1), .int .u32 (c : Int), .int .u32 (s : Int), .int .u16 (n : Int), .string gg, .string mm, .slice A K cc] 32)) #[.int .i64 1, .int .u64 (u : Int), .int .i64 (bits BinOp.and IntKind.i64 nn 1), .int .u32 (c : Int), .int .u32 (s : Int), .int .u16 (n : Int), .string gg, .string mm, .slice A K cc] 32 (0, 0) 1 [.int .i64 1, .int .u64 (u : Int), .int .i64 (bits BinOp.and IntKind.i64 nn 1), .int .u32 (c : Int), .int .u32 (s : Int), .int .u16 (n : Int), .string gg, .string mm, .slice A K cc] rfl rfl
        rw [World.size_alloc] at hsrc
        have hone : ∀ y0 ∈ ([.int .i64 1, .int .u64 (u : Int), .int .i64 (bits BinOp.and IntKind.i64 nn 1), .int .u32 (c : Int), .int .u32 (s : Int), .int .u16 (n : Int), .string gg, .string mm, .slice A K cc] : List Value), y0.oneCell' = true := by
          intro y0 hu
          simp only [List.mem_cons, List.not_mem_nil, or_false] at hu
          rcases hu with rfl | rfl | rfl | rfl | rfl | rfl | rfl | rfl | rfl <;> rfl
        have ho3 := (ho2.out (.cells #[.int .i64 1, .int .u64 (u : Int), .int .i64 (bits BinOp.and IntKind.i64 nn 1), .int .u32 (c : Int), .int .u32 (s : Int), .int .u16 (n : Int), .string gg, .string mm, .slice A K cc] 32)).alloc (.cells #[.int .i64 1, .int .u64 (u : Int), .int .i64 (bits BinOp.and IntKind.i64 nn 1), .int .u32 (c : Int), .int .u32 (s : Int), .int .u16 (n : Int), .string gg, .string mm, .slice A K cc] 32)
        have hb3 := (hbr2.out (.cells #[.int .i64 1, .int .u64 (u : Int), .int .i64 (bits BinOp.and IntKind.i64 nn 1), .int .u32 (c : Int), .int .u32 (s : Int), .int .u16 (n : Int), .string gg, .string mm, .slice A K cc] 32)).alloc (hbr2.out (.cells #[.int .i64 1, .int .u64 (u : Int), .int .i64 (bits BinOp.and IntKind.i64 nn 1), .int .u32 (c : Int), .int .u32 (s : Int), .int .u16 (n : Int), .string gg, .string mm, .slice A K cc] 32)).size (.cells #[.int .i64 1, .int .u64 (u : Int), .int .i64 (bits BinOp.and IntKind.i64 nn 1), .int .u32 (c : Int), .int .u32 (s : Int), .int .u16 (n : Int), .string gg, .string mm, .slice A K cc] 32)
        have hyc := (Blk.new wr 32 #[.int .i64 1, .int .u64 (u : Int), .int .i64 (bits BinOp.and IntKind.i64 nn 1), .int .u32 (c : Int), .int .u32 (s : Int), .int .u16 (n : Int), .string gg, .string mm, .slice A K cc]).rec9
        go_wp2_with (at_builtin; go_must (refine wpList_append_mine rfl _ _ 54 54 rfl 32 i0 _ 9 96 Try.underlying54 hi hz0 hz1 hz2 rfl rfl ho3 rfl (Src.ofReads Try.underlying54 _ hsrc hone) (by unfold maxLen; omega) (by omega) (fun A8 c8 w8 ho8 hg8 hat8 => ?_)))
        have hb8 := hb3.grown hg8 hb3.size (fun g hg => hAw.out g hg)
        have hA8 : ∀ g, bOf A8 = some g → w.heap.size ≤ g := fun g hg => by
          rcases hat8 with h | h <;> rw [h] at hg
          · exact hAw.out g hg
          · cases hg; exact hb3.size
        clear hyc hsrc ho3 hb3 hg8 hat8
        go_roundw
        case rel => exact ⟨j + 1, A8, c8, _, _, _, u, en, su, rfl, rfl, rfl, rfl, rfl, Rl.out.push (r := ⟨1, u, bits BinOp.and IntKind.i64 nn 1, ⟨c, s, n, g, m, ol⟩⟩) hlt ⟨gg, mm, A, K, cc, rfl, hop.out, hub⟩ ho8 hA8 hb8 (by omega) (by omega)⟩
        case measure => simp [intOf]; omega
      by_cases hq : q = 2
      · subst hq
        clear hq0 hq5
        obtain ⟨u, hu, hub⟩ : ∃ u : Nat, (if (vw : Int) < 1 then (1 : Int) else (vw : Int)) = (u : Int) ∧ u < 18446744073709551616 := ⟨if vw < 1 then 1 else vw, by split <;> split <;> omega, by split <;> omega⟩
        have hnw2 : IntKind.i64.wrap (en + 1) = en + 1 := w64_id _ (by omega) (by omega)
        have hsrc := Reads.lit (size := 9) (wr.alloc (.cells #[.int .i64 2, .int .u64 (u : Int), .int .i64 nn, .int .u32 (c : Int), .int .u32 (s : Int), .int .u16 (n : Int), .string gg, .string mm, .slice A K cc] 32)) #[.int .i64 2, .int .u64 (u : Int), .int .i64 nn, .int .u32 (c : Int), .int .u32 (s : Int), .int .u16 (n : Int), .string gg, .string mm, .slice A K cc] 32 (0, 0) 1 [.int .i64 2, .int .u64 (u : Int), .int .i64 nn, .int .u32 (c : Int), .int .u32 (s : Int), .int .u16 (n : Int), .string gg, .string mm, .slice A K cc] rfl rfl
        rw [World.size_alloc] at hsrc
        have hone : ∀ y0 ∈ ([.int .i64 2, .int .u64 (u : Int), .int .i64 nn, .int .u32 (c : Int), .int .u32 (s : Int), .int .u16 (n : Int), .string gg, .string mm, .slice A K cc] : List Value), y0.oneCell' = true := by
          intro y0 hu
          simp only [List.mem_cons, List.not_mem_nil, or_false] at hu
          rcases hu with rfl | rfl | rfl | rfl | rfl | rfl | rfl | rfl | rfl <;> rfl
        have ho3 := (ho2.out (.cells #[.int .i64 2, .int .u64 (u : Int), .int .i64 nn, .int .u32 (c : Int), .int .u32 (s : Int), .int .u16 (n : Int), .string gg, .string mm, .slice A K cc] 32)).alloc (.cells #[.int .i64 2, .int .u64 (u : Int), .int .i64 nn, .int .u32 (c : Int), .int .u32 (s : Int), .int .u16 (n : Int), .string gg, .string mm, .slice A K cc] 32)
        have hb3 := (hbr2.out (.cells #[.int .i64 2, .int .u64 (u : Int), .int .i64 nn, .int .u32 (c : Int), .int .u32 (s : Int), .int .u16 (n : Int), .string gg, .string mm, .slice A K cc] 32)).alloc (hbr2.out (.cells #[.int .i64 2, .int .u64 (u : Int), .int .i64 nn, .int .u32 (c : Int), .int .u32 (s : Int), .int .u16 (n : Int), .string gg, .string mm, .slice A K cc] 32)).size (.cells #[.int .i64 2, .int .u64 (u : Int), .int .i64 nn, .int .u32 (c : Int), .int .u32 (s : Int), .int .u16 (n : Int), .string gg, .string mm, .slice A K cc] 32)
        have hyc := (Blk.new wr 32 #[.int .i64 2, .int .u64 (u : Int), .int .i64 nn, .int .u32 (c : Int), .int .u32 (s : Int), .int .u16 (n : Int), .string gg, .string mm, .slice A K cc]).rec9
        go_wp2_with (at_builtin; go_must (refine wpList_append_mine rfl _ _ 54 54 rfl 32 i0 _ 9 96 Try.underlying54 hi hz0 hz1 hz2 rfl rfl ho3 rfl (Src.ofReads Try.underlying54 _ hsrc hone) (by unfold maxLen; omega) (by omega) (fun A8 c8 w8 ho8 hg8 hat8 => ?_)))
        have hb8 := hb3.grown hg8 hb3.size (fun g hg => hAw.out g hg)
        have hA8 : ∀ g, bOf A8 = some g → w.heap.size ≤ g := fun g hg => by
          rcases hat8 with h | h <;> rw [h] at hg
          · exact hAw.out g hg
          · cases hg; exact hb3.size
        clear hyc hsrc ho3 hb3 hg8 hat8
        go_roundw
        case rel => exact ⟨j + 1, A8, c8, _, _, _, vw, (en + 1), su, rfl, rfl, rfl, rfl, rfl, Rl.out.push (r := ⟨2, u, nn, ⟨c, s, n, g, m, ol⟩⟩) hlt ⟨gg, mm, A, K, cc, rfl, hop.out, hub⟩ ho8 hA8 hb8 (by omega) (by omega)⟩
        case measure => simp [intOf]; omega
      by_cases hq : q = 3
      · subst hq
        clear hq0 hq5
        have hs1 : IntKind.i64.wrap (en - su) = en - su := w64_id _ (by omega) (by omega)
        have hs2 : IntKind.i64.wrap (en - su + 1) = en - su + 1 := w64_id _ (by omega) (by omega)
        go_wp2_with fail
        refine (place_walk _ (show 0 < en - su + 1 by omega) (by omega)).mono ?_
        rintro e w4 ⟨⟨p, hp0, hp5, rfl⟩, rfl⟩
        try dsimp only
        have hs3 : IntKind.i64.wrap (su + p) = su + p := w64_id _ (by omega) (by omega)
        have hsrc := Reads.lit (size := 9) (wr.alloc (.cells #[.int .i64 3, .int .u64 (v : Int), .int .i64 (su + p), .int .u32 (c : Int), .int .u32 (s : Int), .int .u16 (n : Int), .string gg, .string mm, .slice A K cc] 32)) #[.int .i64 3, .int .u64 (v : Int), .int .i64 (su + p), .int .u32 (c : Int), .int .u32 (s : Int), .int .u16 (n : Int), .string gg, .string mm, .slice A K cc] 32 (0, 0) 1 [.int .i64 3, .int .u64 (v : Int), .int .i64 (su + p), .int .u32 (c : Int), .int .u32 (s : Int), .int .u16 (n : Int), .string gg, .string mm, .slice A K cc] rfl rfl
        rw [World.size_alloc] at hsrc
        have hone : ∀ y0 ∈ ([.int .i64 3, .int .u64 (v : Int), .int .i64 (su + p), .int .u32 (c : Int), .int .u32 (s : Int), .int .u16 (n : Int), .string gg, .string mm, .slice A K cc] : List Value), y0.oneCell' = true := by
          intro y0 hu
          simp only [List.mem_cons, List.not_mem_nil, or_false] at hu
          rcases hu with rfl | rfl | rfl | rfl | rfl | rfl | rfl | rfl | rfl <;> rfl
        have ho3 := (ho2.out (.cells #[.int .i64 3, .int .u64 (v : Int), .int .i64 (su + p), .int .u32 (c : Int), .int .u32 (s : Int), .int .u16 (n : Int), .string gg, .string mm, .slice A K cc] 32)).alloc (.cells #[.int .i64 3, .int .u64 (v : Int), .int .i64 (su + p), .int .u32 (c : Int), .int .u32 (s : Int), .int .u16 (n : Int), .string gg, .string mm, .slice A K cc] 32)
        have hb3 := (hbr2.out (.cells #[.int .i64 3, .int .u64 (v : Int), .int .i64 (su + p), .int .u32 (c : Int), .int .u32 (s : Int), .int .u16 (n : Int), .string gg, .string mm, .slice A K cc] 32)).alloc (hbr2.out (.cells #[.int .i64 3, .int .u64 (v : Int), .int .i64 (su + p), .int .u32 (c : Int), .int .u32 (s : Int), .int .u16 (n : Int), .string gg, .string mm, .slice A K cc] 32)).size (.cells #[.int .i64 3, .int .u64 (v : Int), .int .i64 (su + p), .int .u32 (c : Int), .int .u32 (s : Int), .int .u16 (n : Int), .string gg, .string mm, .slice A K cc] 32)
        have hyc := (Blk.new wr 32 #[.int .i64 3, .int .u64 (v : Int), .int .i64 (su + p), .int .u32 (c : Int), .int .u32 (s : Int), .int .u16 (n : Int), .string gg, .string mm, .slice A K cc]).rec9
        go_wp2_with (at_builtin; go_must (refine wpList_append_mine rfl _ _ 54 54 rfl 32 i0 _ 9 96 Try.underlying54 hi hz0 hz1 hz2 rfl rfl ho3 rfl (Src.ofReads Try.underlying54 _ hsrc hone) (by unfold maxLen; omega) (by omega) (fun A8 c8 w8 ho8 hg8 hat8 => ?_)))
        have hb8 := hb3.grown hg8 hb3.size (fun g hg => hAw.out g hg)
        have hA8 : ∀ g, bOf A8 = some g → w.heap.size ≤ g := fun g hg => by
          rcases hat8 with h | h <;> rw [h] at hg
          · exact hAw.out g hg
          · cases hg; exact hb3.size
        clear hyc hsrc ho3 hb3 hg8 hat8
        go_roundw
        case rel => exact ⟨j + 1, A8, c8, _, _, _, vw, (su + p), su, rfl, rfl, rfl, rfl, rfl, Rl.out.push (r := ⟨3, v, su + p, ⟨c, s, n, g, m, ol⟩⟩) hlt ⟨gg, mm, A, K, cc, rfl, hop.out, hv⟩ ho8 hA8 hb8 (by omega) (by omega)⟩
        case measure => simp [intOf]; omega
      by_cases hq : q = 4
      · subst hq
        clear hq0 hq5
        have hs1 : IntKind.i64.wrap (en - su) = en - su := w64_id _ (by omega) (by omega)
        have hs2 : IntKind.i64.wrap (en - su + 1) = en - su + 1 := w64_id _ (by omega) (by omega)
        go_wp2_with fail
        refine (place_walk _ (show 0 < en - su + 1 by omega) (by omega)).mono ?_
        rintro e w4 ⟨⟨p, hp0, hp5, rfl⟩, rfl⟩
        try dsimp only
        have hs3 : IntKind.i64.wrap (su + p) = su + p := w64_id _ (by omega) (by omega)
        have hsrc := Reads.lit (size := 9) (wr.alloc (.cells #[.int .i64 4, .int .u64 (v : Int), .int .i64 (su + p), .int .u32 (c : Int), .int .u32 (s : Int), .int .u16 (n : Int), .string gg, .string mm, .slice A K cc] 32)) #[.int .i64 4, .int .u64 (v : Int), .int .i64 (su + p), .int .u32 (c : Int), .int .u32 (s : Int), .int .u16 (n : Int), .string gg, .string mm, .slice A K cc] 32 (0, 0) 1 [.int .i64 4, .int .u64 (v : Int), .int .i64 (su + p), .int .u32 (c : Int), .int .u32 (s : Int), .int .u16 (n : Int), .string gg, .string mm, .slice A K cc] rfl rfl
        rw [World.size_alloc] at hsrc
        have hone : ∀ y0 ∈ ([.int .i64 4, .int .u64 (v : Int), .int .i64 (su + p), .int .u32 (c : Int), .int .u32 (s : Int), .int .u16 (n : Int), .string gg, .string mm, .slice A K cc] : List Value), y0.oneCell' = true := by
          intro y0 hu
          simp only [List.mem_cons, List.not_mem_nil, or_false] at hu
          rcases hu with rfl | rfl | rfl | rfl | rfl | rfl | rfl | rfl | rfl <;> rfl
        have ho3 := (ho2.out (.cells #[.int .i64 4, .int .u64 (v : Int), .int .i64 (su + p), .int .u32 (c : Int), .int .u32 (s : Int), .int .u16 (n : Int), .string gg, .string mm, .slice A K cc] 32)).alloc (.cells #[.int .i64 4, .int .u64 (v : Int), .int .i64 (su + p), .int .u32 (c : Int), .int .u32 (s : Int), .int .u16 (n : Int), .string gg, .string mm, .slice A K cc] 32)
        have hb3 := (hbr2.out (.cells #[.int .i64 4, .int .u64 (v : Int), .int .i64 (su + p), .int .u32 (c : Int), .int .u32 (s : Int), .int .u16 (n : Int), .string gg, .string mm, .slice A K cc] 32)).alloc (hbr2.out (.cells #[.int .i64 4, .int .u64 (v : Int), .int .i64 (su + p), .int .u32 (c : Int), .int .u32 (s : Int), .int .u16 (n : Int), .string gg, .string mm, .slice A K cc] 32)).size (.cells #[.int .i64 4, .int .u64 (v : Int), .int .i64 (su + p), .int .u32 (c : Int), .int .u32 (s : Int), .int .u16 (n : Int), .string gg, .string mm, .slice A K cc] 32)
        have hyc := (Blk.new wr 32 #[.int .i64 4, .int .u64 (v : Int), .int .i64 (su + p), .int .u32 (c : Int), .int .u32 (s : Int), .int .u16 (n : Int), .string gg, .string mm, .slice A K cc]).rec9
        go_wp2_with (at_builtin; go_must (refine wpList_append_mine rfl _ _ 54 54 rfl 32 i0 _ 9 96 Try.underlying54 hi hz0 hz1 hz2 rfl rfl ho3 rfl (Src.ofReads Try.underlying54 _ hsrc hone) (by unfold maxLen; omega) (by omega) (fun A8 c8 w8 ho8 hg8 hat8 => ?_)))
        have hb8 := hb3.grown hg8 hb3.size (fun g hg => hAw.out g hg)
        have hA8 : ∀ g, bOf A8 = some g → w.heap.size ≤ g := fun g hg => by
          rcases hat8 with h | h <;> rw [h] at hg
          · exact hAw.out g hg
          · cases hg; exact hb3.size
        clear hyc hsrc ho3 hb3 hg8 hat8
        go_roundw
        case rel => exact ⟨j + 1, A8, c8, _, _, _, vw, en, (su + p), rfl, rfl, rfl, rfl, rfl, Rl.out.push (r := ⟨4, v, su + p, ⟨c, s, n, g, m, ol⟩⟩) hlt ⟨gg, mm, A, K, cc, rfl, hop.out, hv⟩ ho8 hA8 hb8 (by omega) (by omega)⟩
        case measure => simp [intOf]; omega
      exfalso; omega
    · have d2 : decide ((j : Int) < (N : Int)) = false := decide_eq_false (by omega)
      have hjN := Rl.jN
      obtain rfl : j = N := by omega
      have fin : MadeRes w j (.returned (.slice A1 j c1)) wr := ⟨A1, c1, xs1, css1, l1, rfl, Rl.ll, Rl.ho, Rl.hx, Rl.hxs, Rl.hb⟩
      replace fin := Lib.hid fin
      replace Rl := Lib.hid Rl
      go_wp2_with fail
      go_ret
      exact fin.out
end Go.Proofs.Ytjljlgkghlphnaa
