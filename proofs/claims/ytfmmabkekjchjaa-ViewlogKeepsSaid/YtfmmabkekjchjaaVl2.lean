/- Logs that are built entry by entry; viewlog.clone. -/
import Derived.Test.YtfmmabkekjchjaaVl1
import Derived.Test.YtfmmabkekjchjaaLogW
import Derived.Test.YtfmmabkekjchjaaStep
import Derived.Test.YtfmmabkekjchjaaSt2
import Derived.Deep.CutRange
set_option linter.unusedSimpArgs false
set_option linter.unusedVariables false
namespace Go.Proofs.Ytfmmabkekjchjaa
open Go.RowKit
set_option maxRecDepth 100000

/-- A call that is read as long as no block turns but those of P, and new ones. -/
def OpHeld (w : World) (P : Nat → Prop) (o : OpD) (cs : Array Value) : Prop := ∀ (S : Nat → Prop) (W : World), Upd S w W → (∀ g, S g → P g) → OpReads W W.heap.size o cs
theorem OpHeld.next {w w2 : World} {P P' T : Nat → Prop} {o : OpD} {cs : Array Value} (h : OpHeld w P o cs) (hu : Upd T w w2) (hT : ∀ g, g < w.heap.size → T g → P g) (hP : ∀ g, g < w.heap.size → P' g → P g) : OpHeld w2 P' o cs :=
  fun S W hW hS => h (fun g => g < w.heap.size ∧ (S g ∨ T g)) W ((hu.mono (T := fun g => g < w.heap.size ∧ (S g ∨ T g)) (fun k hk ht => ⟨hk, .inr ht⟩)).trans hW (fun i hi hs => ⟨hi, .inl hs⟩))
    (fun g hg => hg.2.elim (fun hs => hP g hg.1 (hS g hs)) (fun ht => hT g hg.1 ht))
theorem OpHeld.reads {w : World} {P : Nat → Prop} {o : OpD} {cs : Array Value} (h : OpHeld w P o cs) : OpReads w w.heap.size o cs := h (fun _ => False) w (Upd.refl _ w) (fun _ hf => hf.elim)
theorem held_of_row {w w' : World} {o : OpD} {A' : Option Addr} {c' L : Nat} {xs : List Value} {css : Nat → Array Value} (R : VRow w' w.heap.size o.l A' c' xs css) (hL : o.l.length = L) (h16 : L ≤ 2199023255488) (hok : ∀ v ∈ o.l, OkV v) (h1 : o.c < 4294967296) (h2 : o.s < 4294967296) (h3 : o.n < 65536) :
    OpHeld w' (fun g => g < w.heap.size) o #[.int .u32 (o.c : Int), .int .u32 (o.s : Int), .int .u16 (o.n : Int), .string (bstr o.g), .string (bstr o.m), .slice A' L c'] :=
  fun S W hu hS => opread_reads (w := w) (R.upd hu (fun g hg hs => by have h := hS g hs; omega)) hL h16 hok h1 h2 h3

/-- A log that a walk builds, in blocks from b on. -/
structure LogP (w : World) (b : Nat) (A : Option Addr) (c : Nat) (l : List (Nat × OpD)) (xs : List Value) (css : Nat → Array Value) : Prop where
  ho : Own w 54 7 A l.length c xs
  hA : ∀ g, bOf A = some g → b ≤ g
  hx : ∀ j x, l[j]? = some x → OpHeld w (fun g => g < b ∨ some g = bOf A) x.2 (css j)
  hxs : ∀ j x, l[j]? = some x → (xs.drop (j * 7)).take 7 = Value.int .u64 (x.1 : Int) :: (css j).toList
  hv : ∀ x ∈ l, x.1 < 18446744073709551616
  one : ∀ u ∈ xs, u.oneCell' = true
theorem LogP.nil (w : World) (b : Nat) : LogP w b none 0 [] [] (fun _ => #[]) := ⟨Own.none_, by simp [bOf], by simp, by simp, by simp, by simp⟩
theorem LogP.below {w w' : World} {b : Nat} {A : Option Addr} {c : Nat} {l : List (Nat × OpD)} {xs : List Value} {css : Nat → Array Value} (h : LogP w b A c l xs css) (hb : Below w.heap.size w w') : LogP w' b A c l xs css :=
  ⟨h.ho.below hb (Nat.le_refl _), h.hA, fun j x hj => (h.hx j x hj).next (T := fun _ => False) (Upd.of_below_size hb) (fun _ _ hf => hf.elim) (fun _ _ hp => hp), h.hxs, h.hv, h.one⟩
theorem LogP.reads {w W : World} {b : Nat} {S : Nat → Prop} {A : Option Addr} {c : Nat} {l : List (Nat × OpD)} {xs : List Value} {css : Nat → Array Value} (h : LogP w b A c l xs css) (hu : Upd S w W) (hS : ∀ g, S g → g < b) : LogR W W.heap.size A c l xs css := by
  refine ⟨(h.ho.upd hu (fun g hg hs => by have h1 := h.hA g hg; have h2 := hS g hs; omega)).reads_, h.ho.le_cap, fun e => ?_, fun j x hj => h.hx j x hj S W hu (fun g hg => .inl (hS g hg)), h.hxs, h.hv, h.one⟩
  rcases h.ho.2 with ⟨_, _, hc⟩ | ⟨g, cur, hA, _⟩
  · exact hc
  · rw [e] at hA; cases hA
theorem LogP.push {w w7 w8 : World} {b c8 v : Nat} {A8 : Option Addr} {o : OpD} {cs : Array Value} {A : Option Addr} {c : Nat} {l : List (Nat × OpD)} {xs : List Value} {css : Nat → Array Value} (h : LogP w b A c l xs css) (hbw : b ≤ w.heap.size) (hb : Below w.heap.size w w7)
    (ho8 : Own w8 54 7 A8 (l.length + 1) c8 (xs ++ (Value.int .u64 (v : Int) :: cs.toList))) (hg8 : w7.grownBy w8 (bOf A)) (hat : bOf A8 = bOf A ∨ bOf A8 = some w7.heap.size) (hop : OpHeld w7 (fun g => g < w.heap.size) o cs) (hv : v < 18446744073709551616) :
    LogP w8 b A8 c8 (l ++ [(v, o)]) (xs ++ (Value.int .u64 (v : Int) :: cs.toList)) (fun k => if k = l.length then cs else css k) := by
  have hlx := h.ho.len
  have h7 := hb.size
  have hu7 : Upd (fun g => some g = bOf A) w7 w8 := (Upd.refl _ w7).grown hg8 (fun k e _ => e.symm)
  have hu : Upd (fun g => some g = bOf A) w w8 := (Upd.of_below_size hb).trans hu7 (fun _ _ e => e)
  have hcs : cs.toList.length = 6 := by
    obtain ⟨_, _, _, _, rfl, _⟩ := hop.reads
    rfl
  have hone : ∀ u ∈ cs.toList, u.oneCell' = true := by
    obtain ⟨_, _, _, _, rfl, _⟩ := hop.reads
    intro u hu
    simp at hu
    rcases hu with rfl | rfl | rfl | rfl | rfl | rfl <;> rfl
  refine ⟨by rw [List.length_append]; exact ho8, fun g hg => ?_, fun j x hj => ?_, fun j x hj => ?_, fun x hx => ?_, fun u hu' => ?_⟩
  · rcases hat with e | e <;> rw [e] at hg
    · exact h.hA g hg
    · cases hg; omega
  · rcases Nat.lt_trichotomy j l.length with hjl | hjl | hjl
    · rw [if_neg (by omega)]
      rw [List.getElem?_append_left hjl] at hj
      refine (h.hx j x hj).next hu (fun g _ e => .inr e) (fun g hg hp => ?_)
      rcases hp with hp | hp
      · exact .inl hp
      · rcases hat with e | e <;> rw [e] at hp
        · exact .inr hp
        · cases hp; omega
    · subst hjl
      rw [if_pos rfl]
      simp at hj
      subst hj
      refine hop.next hu7 (fun g _ e => h.ho.lt e.symm) (fun g hg hp => ?_)
      rcases hp with hp | hp
      · omega
      · rcases hat with e | e <;> rw [e] at hp
        · exact h.ho.lt hp.symm
        · cases hp; omega
    · rw [List.getElem?_eq_none (by simp; omega)] at hj; cases hj
  · rcases Nat.lt_trichotomy j l.length with hjl | hjl | hjl
    · rw [if_neg (by omega)]
      rw [List.getElem?_append_left hjl] at hj
      rw [← h.hxs j x hj, List.drop_append_of_le_length (by omega), List.take_append_of_le_length (by rw [List.length_drop]; omega)]
    · subst hjl
      rw [if_pos rfl]
      simp at hj
      subst hj
      rw [List.drop_left' hlx]
      exact List.take_of_length_le (by simp [hcs])
    · rw [List.getElem?_eq_none (by simp; omega)] at hj; cases hj
  · rw [List.mem_append] at hx
    rcases hx with hx | hx
    · exact h.hv x hx
    · simp at hx; subst hx; exact hv
  · rw [List.mem_append] at hu'
    rcases hu' with hu' | hu'
    · exact h.one u hu'
    · rcases List.mem_cons.1 hu' with rfl | hu'
      · rfl
      · exact hone u hu'

def cleanO (o : OpD) : OpD := ⟨o.c, o.s, o.n, o.g, o.m, o.l.map cleanV⟩
def cleanLog (l : List (Nat × OpD)) : List (Nat × OpD) := l.map fun x => (x.1, cleanO x.2)
/-- A log in new memory. -/
def LogRes (w : World) (lg : List (Nat × OpD)) (e : Ending) (w' : World) : Prop :=
  ∃ A c xs css, e = .returned (.slice A lg.length c) ∧ LogP w' w.heap.size A c lg xs css ∧ Below w.heap.size w w'

theorem Blk.ent7 {w : World} {g : Nat} {t : TypeId} {a b c d e f h : Value} (x : Blk w g t #[a, b, c, d, e, f, h]) : w.cell? ⟨g, 0, none⟩ = some a ∧ w.cell? ⟨g, 1, none⟩ = some b ∧ w.cell? ⟨g, 2, none⟩ = some c ∧ w.cell? ⟨g, 3, none⟩ = some d ∧ w.cell? ⟨g, 4, none⟩ = some e ∧ w.cell? ⟨g, 5, none⟩ = some f ∧ w.cell? ⟨g, 6, none⟩ = some h :=
  ⟨x.cell 0, x.cell 1, x.cell 2, x.cell 3, x.cell 4, x.cell 5, x.cell 6⟩

structure ClRel (w wr : World) (l : List (Nat × OpD)) (j : Nat) (A : Option Addr) (c : Nat) (xs : List Value) (css : Nat → Array Value) : Prop where
  P : LogP wr w.heap.size A c (cleanLog (l.take j)) xs css
  hb : Below w.heap.size w wr
theorem cleanLog_take {l : List (Nat × OpD)} {j : Nat} {x : Nat × OpD} (hx : l[j]? = some x) : cleanLog (l.take (j + 1)) = cleanLog (l.take j) ++ [(x.1, cleanO x.2)] := by
  have hj : j < l.length := by
    rcases Nat.lt_or_ge j l.length with h | h
    · exact h
    · rw [List.getElem?_eq_none h] at hx; cases hx
  rw [List.take_succ_eq_append_getElem hj]
  rw [List.getElem?_eq_getElem hj] at hx
  injection hx with hx
  unfold cleanLog
  rw [List.map_append, hx]
  rfl
theorem ClRel.push {w wr w7 w8 : World} {j v oc os_ on c c8 c6 oL : Nat} {og' om' : List UInt8} {ol : List Val} {og om : ByteArray} {l : List (Nat × OpD)} {A A8 A6 : Option Addr} {xs : List Value} {css : Nat → Array Value} (R : ClRel w wr l j A c xs css)
    (hx : l[j]? = some (v, ⟨oc, os_, on, og', om', ol⟩)) (hog : bstr og' = og) (hom : bstr om' = om) (hv : v < 18446744073709551616) (hb : Below wr.heap.size wr w7)
    (ho8 : Own w8 54 7 A8 (j + 1) c8 (xs ++ [.int .u64 (v : Int), .int .u32 (oc : Int), .int .u32 (os_ : Int), .int .u16 (on : Int), .string og, .string om, .slice A6 oL c6])) (hg8 : w7.grownBy w8 (bOf A)) (hat : bOf A8 = bOf A ∨ bOf A8 = some w7.heap.size)
    (hop : OpHeld w7 (fun g => g < wr.heap.size) ⟨oc, os_, on, og', om', ol.map cleanV⟩ #[.int .u32 (oc : Int), .int .u32 (os_ : Int), .int .u16 (on : Int), .string og, .string om, .slice A6 oL c6]) :
    ∃ xs' css', ClRel w w8 l (j + 1) A8 c8 xs' css' := by
  have hj : j < l.length := by
    rcases Nat.lt_or_ge j l.length with h | h
    · exact h
    · rw [List.getElem?_eq_none h] at hx; cases hx
  have hl : (cleanLog (l.take j)).length = j := by unfold cleanLog; rw [List.length_map, List.length_take]; omega
  have := R.P.push (v := v) R.hb.size hb (by rw [hl]; exact ho8) hg8 hat hop hv
  refine ⟨_, _, ⟨by rw [cleanLog_take hx]; exact this, (below_then hb R.hb).grown hg8 (Nat.le_trans R.hb.size hb.size) (fun g hg => R.P.hA g hg)⟩⟩

set_option maxHeartbeats 6400000 in
theorem vl_clone {w : World} {B c : Nat} {A : Option Addr} {l : List (Nat × OpD)} {xs : List Value} {css : Nat → Array Value} (h : LogR w B A c l xs css) (hB : B ≤ w.heap.size) (hl : l.length ≤ 1000000) :
    Calls Try.prog 27 #[.slice A l.length c] w (LogRes w (cleanLog l)) := by
  obtain ⟨i0, hi, hz0, hz1, hz2⟩ := info_parts info_ent
  obtain ⟨N, hN⟩ : ∃ N, l.length = N := ⟨_, rfl⟩
  have hcl : (cleanLog l).length = l.length := by unfold cleanLog; rw [List.length_map]
  unfold LogRes
  rw [hcl, hN]
  rw [hN] at hl
  replace hN := Lib.hid hN
  replace h := Lib.hid h
  clear hcl
  go_enter Try.func27, Try.ntmps27
  go_wp2_with fail
  go_loopw [3, 8] (fun s3 ii wr => ∃ (j : Nat) (A1 : Option Addr) (c2 : Nat) (xs1 : List Value) (css1 : Nat → Array Value), s3 = .slice A1 j c2 ∧ ii = .int .i64 (j : Int) ∧ j ≤ N ∧ ClRel w wr l j A1 c2 xs1 css1) (fun _ ii _ => N + 1 - (intOf ii).toNat)
  case atStart => exact ⟨0, none, 0, [], _, rfl, rfl, Nat.zero_le _, by rw [List.take_zero]; exact LogP.nil _ _, Below.refl _ _⟩
  case round =>
    obtain ⟨j, A1', c2, xs1, css1, rfl, rfl, hjN, Rl⟩ := hrel
    by_cases hlt : j < N
    · have hx : l[j]? = some (l[j]'(by rw [hN.out]; exact hlt)) := List.getElem?_eq_getElem _
      have hbr := Rl.hb
      have hW : ∀ W, Below wr.heap.size wr W → LogR W B A c l xs css := fun W hb => h.out.below ((below_then hb hbr).mono hB)
      generalize l[j]'(by rw [hN.out]; exact hlt) = x at hx
      have hv := (h.out).hv x (List.mem_of_getElem? hx)
      obtain ⟨ad, A1, c1, rfl, hcs1, ho⟩ := (hW wr (Below.refl _ _)).form hx
      have hcells := (hW wr (Below.refl _ _)).cells7 hx hcs1
      have hos := fun W (hb : Below wr.heap.size wr W) => (ho.below (hb.mono (Nat.le_trans hB hbr.size)))
      obtain ⟨v, ⟨oc, os_, on, og', om', ol⟩⟩ := x
      dsimp only at hcells hos hv
      have hop := (h.out.hx _ _ hx)
      obtain ⟨-, -, -, -, -, -, -, -, hol, hok, hoc, hosc, honc⟩ := hop
      dsimp only at hol hok hoc hosc honc
      obtain ⟨og, hog⟩ : ∃ og, bstr og' = og := ⟨_, rfl⟩
      obtain ⟨om, hom⟩ : ∃ om, bstr om' = om := ⟨_, rfl⟩
      obtain ⟨oL, hoL⟩ : ∃ oL, ol.length = oL := ⟨_, rfl⟩
      rw [hog, hom, hoL] at hcells hos
      rw [hoL] at hol
      have hy := Blk.new wr 54 #[.int .u64 (v : Int), .int .u32 (oc : Int), .int .u32 (os_ : Int), .int .u16 (on : Int), .string og, .string om, .slice A1 oL c1]
      have hby := (Below.refl wr.heap.size wr).alloc (Nat.le_refl _) (.cells #[.int .u64 (v : Int), .int .u32 (oc : Int), .int .u32 (os_ : Int), .int .u16 (on : Int), .string og, .string om, .slice A1 oL c1] 54)
      have hRo := Rl.P.ho
      have hcl2 : (cleanLog (l.take j)).length = j := by unfold cleanLog; rw [List.length_map, List.length_take, hN.out]; omega
      rw [hcl2] at hRo
      replace hos := Lib.hid hos
      replace hok := Lib.hid hok
      replace hol := Lib.hid hol
      replace hog := Lib.hid hog
      replace hom := Lib.hid hom
      replace hoL := Lib.hid hoL
      replace Rl := Lib.hid Rl
      replace hRo := Lib.hid hRo
      replace hx := Lib.hid hx
      replace hv := Lib.hid hv
      replace hoc := Lib.hid hoc
      replace hosc := Lib.hid hosc
      replace honc := Lib.hid honc
      have d2 : decide ((j : Int) < (N : Int)) = true := decide_eq_true (by omega)
      have hjc : j < N := hlt
      have hnw : IntKind.i64.wrap ((j : Int) + 1) = ((j + 1 : Nat) : Int) := by rw [IntKind.wrap_i64]; omega
      clear ho hcs1 hW hcl2
      go_upto_region 5 with (fail)
      clear hcells
      have hyl : wr.heap.size < (wr.alloc (.cells #[.int .u64 (v : Int), .int .u32 (oc : Int), .int .u32 (os_ : Int), .int .u16 (on : Int), .string og, .string om, .slice A1 oL c1] 54)).heap.size := by simp
      generalize wr.alloc (.cells #[.int .u64 (v : Int), .int .u32 (oc : Int), .int .u32 (os_ : Int), .int .u16 (on : Int), .string og, .string om, .slice A1 oL c1] 54) = w5 at *
      have hS0 : Below w5.heap.size w5 w5.drew := (Below.refl _ _).drew
      have hyA : ¬ some wr.heap.size = bOf A1' := fun e => by have := hRo.out.lt e.symm; omega
      have hU0 : Upd (fun x => some x = bOf A1') w5 w5.drew := Upd.of_below_size hS0
      refine wp_region_lex (fun W => Upd (fun x => some x = bOf A1') w5 W) [2, 4] [5, 7, 8] [0, 1, 2, 3, 4, 5, 6, 7, 8, 9] (by kernel_rfl) rfl (by kernel_rfl) (by kernel_rfl) (fun _ _ d _ _ h => by cases d <;> exact h) ?_
      repeat (first | (refine lexG_take _ ?_ rfl rfl rfl rfl (fun _ => ?_) ?_; rotate_left; (focus (go_simp; with_reducible rfl)); try simp only [Act.put, List.setIfInBounds_toArray, List.set_cons_zero, List.set_cons_succ]) | (refine lexG_held _ ?_ rfl rfl rfl rfl (by assumption) (fun _ hSw => ?_) ?_; rotate_left; (focus (have h1 := (hy.upd hSw hyA).ent7; clear hSw; go_simp; with_reducible rfl)); try simp only [Act.put, List.setIfInBounds_toArray, List.set_cons_zero, List.set_cons_succ]) | (refine lexG_skip _ rfl rfl (by assumption) ?_; try simp only [Act.put, List.setIfInBounds_toArray, List.set_cons_zero, List.set_cons_succ]))
      refine lexG_now _ rfl rfl rfl (fun K0 hK => ?_)
      go_wp2_with fail
      refine (clean_progV (hos.out w5.drew (below_then hS0 hby)) (Nat.le_trans hB (below_then (below_then hS0 hby) hbr).size)).mono ?_
      rintro e w6 ⟨A6, c6, xs6, css6, rfl, R6, hb6⟩
      try dsimp only
      have hS6 := below_then hb6 hS0
      have hU6 := Upd.of_below_size (S := fun x => some x = bOf A1') hS6
      have H6 := held_of_row (w := w5.drew) (o := ⟨oc, os_, on, og', om', ol.map cleanV⟩) (L := oL) R6 (by dsimp only; rw [List.length_map, hoL.out]) hol.out (fun v hv => by obtain ⟨u, hu, rfl⟩ := List.mem_map.1 hv; exact clean_okv (hok.out u hu)) hoc.out hosc.out honc.out
      dsimp only at H6
      rw [hog.out, hom.out] at H6
      refine hK _ _ _ (fun _ h => h) hU6 ?_
      clear hK K0 R6
      replace H6 := Lib.hid H6
      try simp only [Act.put, List.setIfInBounds_toArray, List.set_cons_zero, List.set_cons_succ]
      repeat (first | (refine lexG_take _ ?_ rfl rfl rfl rfl (fun _ => ?_) ?_; rotate_left; (focus (go_simp; with_reducible rfl)); try simp only [Act.put, List.setIfInBounds_toArray, List.set_cons_zero, List.set_cons_succ]) | (refine lexG_held _ ?_ rfl rfl rfl rfl (by assumption) (fun _ hSw => ?_) ?_; rotate_left; (focus (have h1 := (hy.upd hSw hyA).ent7; clear hSw; go_simp; with_reducible rfl)); try simp only [Act.put, List.setIfInBounds_toArray, List.set_cons_zero, List.set_cons_succ]) | (refine lexG_skip _ rfl rfl (by assumption) ?_; try simp only [Act.put, List.setIfInBounds_toArray, List.set_cons_zero, List.set_cons_succ]))
      have hsrc := Reads.lit (size := 7) w6 #[.int .u64 (v : Int), .int .u32 (oc : Int), .int .u32 (os_ : Int), .int .u16 (on : Int), .string og, .string om, .slice A6 oL c6] 54 (0, 0) 1 [.int .u64 (v : Int), .int .u32 (oc : Int), .int .u32 (os_ : Int), .int .u16 (on : Int), .string og, .string om, .slice A6 oL c6] rfl rfl
      have hS7 := hS6.alloc hS6.size (.cells #[.int .u64 (v : Int), .int .u32 (oc : Int), .int .u32 (os_ : Int), .int .u16 (on : Int), .string og, .string om, .slice A6 oL c6] 54)
      refine lexG_now _ rfl rfl rfl (fun K0 hK => ?_)
      go_wp2_with fail
      have H7 : OpHeld (w6.alloc (.cells #[.int .u64 (v : Int), .int .u32 (oc : Int), .int .u32 (os_ : Int), .int .u16 (on : Int), .string og, .string om, .slice A6 oL c6] 54)) (fun g => g < wr.heap.size) ⟨oc, os_, on, og', om', ol.map cleanV⟩ #[.int .u32 (oc : Int), .int .u32 (os_ : Int), .int .u16 (on : Int), .string og, .string om, .slice A6 oL c6] := H6.out.next (T := fun _ => False) ((Upd.refl _ w6).alloc _) (fun _ _ hf => hf.elim) (fun g _ hg => by have h1 : wr.heap.size < w5.heap.size := hyl; show g < w5.heap.size; omega)
      generalize w6.alloc (.cells #[.int .u64 (v : Int), .int .u32 (oc : Int), .int .u32 (os_ : Int), .int .u16 (on : Int), .string og, .string om, .slice A6 oL c6] 54) = w7 at *
      have hU7 := Upd.of_below_size (S := fun x => some x = bOf A1') hS7
      refine hK _ _ _ (fun _ h => h) hU7 ?_
      clear hK K0 H6
      replace H7 := Lib.hid H7
      try simp only [Act.put, List.setIfInBounds_toArray, List.set_cons_zero, List.set_cons_succ]
      repeat (first | (refine lexG_take _ ?_ rfl rfl rfl rfl (fun _ => ?_) ?_; rotate_left; (focus (go_simp; with_reducible rfl)); try simp only [Act.put, List.setIfInBounds_toArray, List.set_cons_zero, List.set_cons_succ]) | (refine lexG_held _ ?_ rfl rfl rfl rfl (by assumption) (fun _ hSw => ?_) ?_; rotate_left; (focus (have h1 := (hy.upd hSw hyA).ent7; clear hSw; go_simp; with_reducible rfl)); try simp only [Act.put, List.setIfInBounds_toArray, List.set_cons_zero, List.set_cons_succ]) | (refine lexG_skip _ rfl rfl (by assumption) ?_; try simp only [Act.put, List.setIfInBounds_toArray, List.set_cons_zero, List.set_cons_succ]))
      have hr7 := below_then hS7 hby
      have ho7 := hRo.out.below hr7 (Nat.le_refl _)
      refine lexG_now _ rfl rfl rfl (fun K0 hK => ?_)
      refine wp_append_mine _ _ 29 29 rfl 54 i0 _ 7 80 Try.underlying29 hi hz0 hz1 hz2 rfl rfl ho7 rfl (Src.ofReads Try.underlying29 _ hsrc (by intro u hu; simp only [List.mem_cons, List.not_mem_nil, or_false] at hu; rcases hu with rfl | rfl | rfl | rfl | rfl | rfl | rfl <;> rfl)) (by unfold maxLen; omega) (by omega) (fun A8 c8 w8 ho8 hg8 hat8 => ?_)
      obtain ⟨xs8, css8, R8⟩ := Rl.out.push hx.out hog.out hom.out hv.out hr7 ho8 hg8 hat8 H7.out
      refine hK _ _ _ (fun _ h => h) (hU7.grown hg8 (fun k e _ => e.symm)) ?_
      clear hK K0
      try simp only [Act.put, List.setIfInBounds_toArray, List.set_cons_zero, List.set_cons_succ]
      repeat (first | (refine lexG_take _ ?_ rfl rfl rfl rfl (fun _ => ?_) ?_; rotate_left; (focus (go_simp; with_reducible rfl)); try simp only [Act.put, List.setIfInBounds_toArray, List.set_cons_zero, List.set_cons_succ]) | (refine lexG_held _ ?_ rfl rfl rfl rfl (by assumption) (fun _ hSw => ?_) ?_; rotate_left; (focus ((try dsimp only at hSw); go_simp; with_reducible rfl)); try simp only [Act.put, List.setIfInBounds_toArray, List.set_cons_zero, List.set_cons_succ]) | (refine lexG_skip _ rfl rfl (by assumption) ?_; try simp only [Act.put, List.setIfInBounds_toArray, List.set_cons_zero, List.set_cons_succ]))
      refine lexG_nil ?_
      go_wp2_with fail
      exact ⟨⟨j + 1, A8, c8, _, _, by simp, by simp [hnw], by omega, R8⟩, by simp [intOf]; omega⟩
    · have hj : j = N := by omega
      have hR := Rl.P
      have hbr := Rl.hb
      rw [List.take_of_length_le (by rw [hN.out]; omega)] at hR
      subst hj
      replace hR := Lib.hid hR
      have d2 : decide ((j : Int) < (j : Int)) = false := decide_eq_false (by omega)
      clear Rl
      go_wp2_with fail
      go_ret
      exact ⟨_, _, _, _, rfl, hR.out, hbr⟩
end Go.Proofs.Ytfmmabkekjchjaa
