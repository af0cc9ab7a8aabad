/- choirlaw21.JournalWhole. -/
import Derived.Test.YtlkokkbikkbaoaaJW1
import Derived.Test.YtlkokkbikkbaoaaJW2
import Derived.Test.YtlkokkbikkbaoaaJKnown
import Derived.Test.YtlkokkbikkbaoaaEnts
set_option linter.unusedSimpArgs false
set_option linter.unusedVariables false
set_option linter.unusedSimpArgs false
set_option linter.unusedVariables false
namespace Go.Proofs.Ytlkokkbikkbaoaa
open Go.RowKit
set_option maxRecDepth 100000

structure JwRel (w1 w2 wr : World) (rs : List RecD) (lg : List (Nat × OpD)) (nb m : Nat) (Ab : Option Addr) (cb' : Nat) (Aw : Option Addr) (cw : Nat) (xs : List Value) (css : Nat → Array Value) : Prop where
  ob : Own wr 5 1 Ab nb cb' (bys (allB rs))
  nbl : (allB rs).length = nb
  LW : LogW wr w1.heap.size Aw cw lg xs css
  lm : lg.length = m
  bw : ∀ g, bOf Aw = some g → w2.heap.size ≤ g
  hb : Below w2.heap.size w2 wr
  small : ∀ r ∈ rs, (bytesP r).length ≤ 7000
theorem JwRel.nb_le {w1 w2 wr : World} {rs : List RecD} {lg : List (Nat × OpD)} {nb m : Nat} {Ab : Option Addr} {cb' : Nat} {Aw : Option Addr} {cw : Nat} {xs : List Value} {css : Nat → Array Value} (h : JwRel w1 w2 wr rs lg nb m Ab cb' Aw cw xs css) : nb ≤ rs.length * 7008 := by
  rw [← h.nbl]; exact allB_len rs h.small
theorem JwRel.below {w1 w2 wr w' : World} {rs : List RecD} {lg : List (Nat × OpD)} {nb m : Nat} {Ab : Option Addr} {cb' : Nat} {Aw : Option Addr} {cw : Nat} {xs : List Value} {css : Nat → Array Value} (h : JwRel w1 w2 wr rs lg nb m Ab cb' Aw cw xs css) (hb : Below wr.heap.size wr w') : JwRel w1 w2 w' rs lg nb m Ab cb' Aw cw xs css :=
  ⟨h.ob.below hb (Nat.le_refl _), h.nbl, h.LW.below hb, h.lm, h.bw, below_then hb h.hb, h.small⟩
theorem own_none_cap {w : World} {t : TypeId} {s n c : Nat} {A : Option Addr} {xs : List Value} (h : Own w t s A n c xs) (e : A = none) : c = 0 := by
  rcases h.2 with ⟨_, _, hc⟩ | ⟨g, cur, hA, _⟩
  · exact hc
  · rw [e] at hA; cases hA
/-- Put, of a right record. -/
theorem put_right {w : World} {k n : Int} {v c1 s1 n1 K cc B : Nat} {g m : List UInt8} {gg mm : ByteArray} {l : List Val} {A A0 : Option Addr} {rs : List RecD} {nb cb' : Nat} (ho : OpReads w B ⟨c1, s1, n1, g, m, l⟩ #[.int .u32 (c1 : Int), .int .u32 (s1 : Int), .int .u16 (n1 : Int), .string gg, .string mm, .slice A K cc]) (hB : B ≤ w.heap.size) (hv : v < 18446744073709551616) (hg : g.length ≤ 1000) (hm : m.length ≤ 1000)
    (hob : Own w 5 1 A0 nb cb' (bys (allB rs))) (hnb : (allB rs).length = nb) (hl : nb ≤ 100000000) (he : errJ ⟨k, v, n, ⟨c1, s1, n1, g, m, l⟩⟩ = 0) :
    Calls Try.prog 6 #[.slice A0 nb cb', .agg #[.int .i64 k, .int .u64 (v : Int), .int .i64 n, .int .u32 (c1 : Int), .int .u32 (s1 : Int), .int .u16 (n1 : Int), .string gg, .string mm, .slice A K cc]] w
      (fun e w' => ∃ A2 c2, e = .returned (.tuple #[.slice A2 (nb + (framed (bytesP ⟨k, v, n, ⟨c1, s1, n1, g, m, l⟩⟩)).length) c2, .int .i64 0]) ∧ Own w' 5 1 A2 (nb + (framed (bytesP ⟨k, v, n, ⟨c1, s1, n1, g, m, l⟩⟩)).length) c2 (bys (allB (rs ++ [⟨k, v, n, ⟨c1, s1, n1, g, m, l⟩⟩]))) ∧ (allB (rs ++ [⟨k, v, n, ⟨c1, s1, n1, g, m, l⟩⟩])).length = nb + (framed (bytesP ⟨k, v, n, ⟨c1, s1, n1, g, m, l⟩⟩)).length ∧ Below w.heap.size w w' ∧ ∀ g, bOf A2 = some g → w.heap.size ≤ g) := by
  subst hnb
  have h := jput_walk (k := k) (n := n) (v := v) (c0 := cb') (bs := allB rs) ho hB hv hg hm hob.reads_ hl
  refine h.mono (fun e w' hp => ?_)
  obtain ⟨A2, c2, he', hown, hb, hA⟩ := hp.1 he
  have e1 : allB rs ++ framed (bytesP ⟨k, v, n, ⟨c1, s1, n1, g, m, l⟩⟩) = allB (rs ++ [⟨k, v, n, ⟨c1, s1, n1, g, m, l⟩⟩]) := by rw [allB_app, allB_one]
  have e2 : (allB rs ++ framed (bytesP ⟨k, v, n, ⟨c1, s1, n1, g, m, l⟩⟩)).length = (allB rs).length + (framed (bytesP ⟨k, v, n, ⟨c1, s1, n1, g, m, l⟩⟩)).length := List.length_append ..
  rw [e2] at he' hown
  rw [e1] at hown e2
  exact ⟨A2, c2, he', hown, e2, hb, hA⟩
theorem tmod_nat3 (a b : Nat) : (a : Int).tmod (b : Int) = ((a % b : Nat) : Int) := by rw [Int.tmod_eq_emod_of_nonneg (by omega)]; exact (Int.natCast_emod a b).symm

set_option maxHeartbeats 51200000 in
theorem journalWhole_walk {W : World} {A B : Option Addr} {ca cb' : Nat} {reqs more : List RqD} {xsa xsb : List Value} {cssa cssb : Nat → Array Value} (cut sure : Nat) (hra : RowRq W W.heap.size A reqs xsa cssa) (hrb : RowRq W W.heap.size B more xsb cssb) (hcut : cut ≤ 255) (hsure : sure ≤ 255) :
    Calls Try.prog 3 #[.slice A reqs.length ca, .int .u8 (cut : Int), .slice B more.length cb', .int .u8 (sure : Int)] W (fun e W' => e = .returned (.bool true) ∧ Below W.heap.size W W') := by
  obtain ⟨i0, hi, hz0, hz1, hz2⟩ := info_parts info_ent
  have hkn := fun W => known_true W
  have hops := fun W2 (hW : Below W.heap.size W W2) (h15 : reqs.length ≤ 15) => ops_walk W2 (c0 := ca) (hra.below hW) hW.size (by omega) (K := 0) (by decide) (by decide)
  obtain ⟨N1, hN1⟩ : ∃ N, reqs.length = N := ⟨_, rfl⟩
  obtain ⟨N2, hN2⟩ : ∃ N, more.length = N := ⟨_, rfl⟩
  rw [hN1] at hops ⊢
  rw [hN2]
  replace hkn := Lib.hid hkn
  replace hops := Lib.hid hops
  replace hrb := Lib.hid hrb
  replace hN2 := Lib.hid hN2
  clear hra hN1
  go_enter Try.func3, Try.ntmps3
  go_wp2_with fail
  refine (hkn.out _).mono ?_
  rintro e w1 ⟨rfl, hb1⟩
  try dsimp only
  by_cases h15 : 15 < N1
  · have d1 : decide ((15 : Int) < (N1 : Int)) = true := decide_eq_true (by omega)
    have d1' : decide (15 < N1) = true := decide_eq_true h15
    go_wp2_with fail
    go_ret
    exact ⟨rfl, hb1⟩
  have d1 : decide ((15 : Int) < (N1 : Int)) = false := decide_eq_false (by omega)
  have d1' : decide (15 < N1) = false := decide_eq_false h15
  by_cases h10 : 10 < N2
  · have d2 : decide ((10 : Int) < (N2 : Int)) = true := decide_eq_true (by omega)
    have d2' : decide (10 < N2) = true := decide_eq_true h10
    go_wp2_with fail
    go_ret
    exact ⟨rfl, hb1⟩
  have d2 : decide ((10 : Int) < (N2 : Int)) = false := decide_eq_false (by omega)
  have d2' : decide (10 < N2) = false := decide_eq_false h10
  go_wp2_with fail
  refine (hops.out _ hb1 (by omega)).mono ?_
  rintro e w2 ⟨os, A1, c1, xs1, css1, rfl, hlo, hoko, P0, hb2'⟩
  obtain ⟨M, hM⟩ : ∃ M, 6 + N1 = M := ⟨_, rfl⟩
  rw [hM] at hlo ⊢
  have hM21 : M ≤ 21 := by omega
  try dsimp only
  have hb2 := below_then hb2' hb1
  replace hlo := Lib.hid hlo
  replace hoko := Lib.hid hoko
  have hM0 : 0 < M := by omega
  clear hM
  go_wp2_with fail
  go_loopw [10, 11, 12, 13] (fun s10 s11 s12 s13 wr => ∃ (i nb : Nat) (Ab : Option Addr) (cb2 : Nat) (Aw : Option Addr) (cw : Nat) (xs2 : List Value) (css2 : Nat → Array Value), s10 = .slice Ab nb cb2 ∧ s11 = .slice Aw i cw ∧ s12 = .int .i64 0 ∧ s13 = .int .i64 (i : Int) ∧ i ≤ M ∧ JwRel w1 w2 wr ((os.take i).map (recO 2)) ((os.take i).map fun o => (2, o)) nb i Ab cb2 Aw cw xs2 css2) (fun _ _ _ i _ => M - (intOf i).toNat)
  case atStart => exact ⟨0, 0, none, 0, none, 0, [], _, rfl, rfl, rfl, rfl, Nat.zero_le _, Own.none_, rfl, LogW.nil _ _, rfl, by simp [bOf], Below.refl _ _, by simp⟩
  case round =>
    obtain ⟨i, nb, Ab, cb2, Aw, cw, xs2, css2, rfl, rfl, rfl, rfl, hiM, R⟩ := hrel
    have hiw : IntKind.i64.wrap ((i : Int) + 1) = ((i + 1 : Nat) : Int) := by rw [IntKind.wrap_i64]; omega
    have hbr := R.hb
    have hnb := R.nb_le
    rw [List.length_map, List.length_take, hlo.out] at hnb
    have hnb2 : nb ≤ 200000 := by have := Nat.min_le_right i M; omega
    by_cases hlt : i < M
    · have d3 : decide ((i : Int) < (M : Int)) = true := decide_eq_true (by omega)
      have hio : i < os.length := by rw [hlo.out]; exact hlt
      have hxo : os[i]? = some os[i] := List.getElem?_eq_getElem _
      have hok := hoko.out os[i] (List.getElem_mem hio)
      have htk : os.take (i + 1) = os.take i ++ [os[i]] := List.take_succ_eq_append_getElem hio
      generalize os[i] = o at hxo hok htk
      obtain ⟨g9, A9, c9, eA, -, hO, hcl⟩ := P0.cells hxo
      have hcw := hcl wr hbr
      have hOr : OpReads wr wr.heap.size o #[.int .u32 (o.c : Int), .int .u32 (o.s : Int), .int .u16 (o.n : Int), .string (bstr o.g), .string (bstr o.m), .slice A9 o.l.length c9] := (hO.next (P' := fun _ => False) (T := fun _ => False) (Upd.of_below_size hbr) (fun _ _ hf => hf.elim) (fun _ _ hf => hf.elim)).reads
      have herr := err_recO (v := 2) hok
      have hlen7 := len_recO (v := 2) hok
      have hgl := hok.g
      have hml := hok.m
      obtain ⟨oc, os_, on, og', om', ol⟩ := o
      dsimp only at hcw hOr hcl hgl hml hO
      have hput := put_right (k := 2) (n := 0) (v := 2) hOr (Nat.le_refl _) (by decide) (by omega) (by omega) R.ob R.nbl (by omega) herr
      obtain ⟨og, hog⟩ : ∃ og, bstr og' = og := ⟨_, rfl⟩
      obtain ⟨om, hom⟩ : ∃ om, bstr om' = om := ⟨_, rfl⟩
      obtain ⟨oL, hoL⟩ : ∃ oL, ol.length = oL := ⟨_, rfl⟩
      rw [hog, hom, hoL] at hcw hput hcl hO
      subst eA
      replace hput := Lib.hid hput
      replace hcl := Lib.hid hcl
      replace R := Lib.hid R
      replace hO := Lib.hid hO
      replace htk := Lib.hid htk
      replace hog := Lib.hid hog
      replace hom := Lib.hid hom
      replace hoL := Lib.hid hoL
      clear hOr hxo herr
      go_wp2_with fail
      refine hput.out.mono ?_
      rintro e w6 ⟨A2, c2, rfl, ob6, nb6, hb6, hA2⟩
      obtain ⟨nb', hnb'⟩ : ∃ n', nb + (framed (bytesP ⟨2, 2, 0, ⟨oc, os_, on, og', om', ol⟩⟩)).length = n' := ⟨_, rfl⟩
      rw [hnb'] at ob6 nb6 ⊢
      replace hnb' := Lib.hid hnb'
      try dsimp only
      clear hcw
      have hbr6 := below_then hb6 hbr
      have hc6 := hcl.out w6 hbr6
      have hsrc := Reads.lit (size := 7) w6 #[.int .u64 2, .int .u32 (oc : Int), .int .u32 (os_ : Int), .int .u16 (on : Int), .string og, .string om, .slice A9 oL c9] 42 (0, 0) 1 [.int .u64 2, .int .u32 (oc : Int), .int .u32 (os_ : Int), .int .u16 (on : Int), .string og, .string om, .slice A9 oL c9] rfl rfl
      have hb7 := hb6.alloc hb6.size (.cells #[.int .u64 2, .int .u32 (oc : Int), .int .u32 (os_ : Int), .int .u16 (on : Int), .string og, .string om, .slice A9 oL c9] 42)
      have how7 := R.out.LW.ho.below hb7 (Nat.le_refl _)
      have ob7 := ob6.alloc (.cells #[.int .u64 2, .int .u32 (oc : Int), .int .u32 (os_ : Int), .int .u16 (on : Int), .string og, .string om, .slice A9 oL c9] 42)
      rw [R.out.lm] at how7
      go_wp2_with (at_builtin; go_must (refine wpList_append_mine rfl _ _ 27 27 rfl 42 i0 _ 7 80 Try.underlying27 hi hz0 hz1 hz2 rfl rfl how7 rfl (Src.ofReads Try.underlying27 _ hsrc (by intro u hu; simp only [List.mem_cons, List.not_mem_nil, or_false] at hu; rcases hu with rfl | rfl | rfl | rfl | rfl | rfl | rfl <;> rfl)) (by unfold maxLen; omega) (by omega) (fun A10 c10 w10 ho10 hg10 hat10 => ?_)))
      have hAw := R.out.bw
      have hltw : ∀ g, bOf Aw = some g → g < wr.heap.size := fun g hg => R.out.LW.ho.lt hg
      have hu8 : Upd (fun x => some x = bOf Aw) (w6.alloc (.cells #[.int .u64 2, .int .u32 (oc : Int), .int .u32 (os_ : Int), .int .u16 (on : Int), .string og, .string om, .slice A9 oL c9] 42)) w10 := (Upd.refl _ _).grown hg10 (fun k e _ => e.symm)
      have ob10 := ob7.upd hu8 (fun g hg e => by have h1 := hA2 g hg; have h2 := hltw g e.symm; omega)
      have hb210 := (below_then hb7 hbr).grown hg10 (Nat.le_trans hbr.size hb7.size) (fun g hg => hAw g hg)
      have hA10 : ∀ g, bOf A10 = some g → w2.heap.size ≤ g := fun g hg => by
        rcases hat10 with h | h <;> rw [h] at hg
        · exact hAw g hg
        · cases hg; exact Nat.le_trans hbr.size hb7.size
      have hO10 := hO.out.next (P' := fun g => g < w1.heap.size ∨ some g = bOf A10) (T := fun _ => False) (Upd.of_below_size hb210) (fun _ _ hf => hf.elim) (fun g hg hp => hp.elim .inl (fun e => by have := hA10 g e.symm; omega))
      have L10 := R.out.LW.push (v := 2) (o := ⟨oc, os_, on, og', om', ol⟩) (cs := #[.int .u32 (oc : Int), .int .u32 (os_ : Int), .int .u16 (on : Int), .string og, .string om, .slice A9 oL c9]) (Nat.le_trans hb2'.size hbr.size) hb7 (by rw [R.out.lm]; exact ho10) hg10 hat10 hO10 (by decide)
      have e1 : (os.take (i + 1)).map (recO 2) = (os.take i).map (recO 2) ++ [recO 2 ⟨oc, os_, on, og', om', ol⟩] := by rw [htk.out, List.map_append]; rfl
      have e2 : (os.take (i + 1)).map (fun o => (2, o)) = (os.take i).map (fun o => (2, o)) ++ [(2, (⟨oc, os_, on, og', om', ol⟩ : OpD))] := by rw [htk.out, List.map_append]; rfl
      obtain ⟨xs3, css3, L10⟩ : ∃ xs3 css3, LogW w10 w1.heap.size A10 c10 ((os.take i).map (fun o => (2, o)) ++ [(2, (⟨oc, os_, on, og', om', ol⟩ : OpD))]) xs3 css3 := ⟨_, _, L10⟩
      refine ⟨⟨i + 1, nb', A2, c2, A10, c10, xs3, css3, by rfl, by simp, by rfl, by simp [hiw], by omega, ?_⟩, by simp [intOf]; omega⟩
      rw [e1, e2]
      exact ⟨ob10, nb6, L10, by rw [List.length_append, R.out.lm]; rfl, hA10, hb210, fun r hr => by
        rcases List.mem_append.1 hr with h | h
        · exact R.out.small r h
        · cases List.mem_singleton.1 h; exact hlen7⟩
    · have hie : i = M := by omega
      subst i
      have d3 : decide ((M : Int) < (M : Int)) = false := decide_eq_false (by omega)
      have d3' : decide (M < M) = false := decide_eq_false (by omega)
      have etk : os.take M = os := List.take_of_length_le (by rw [hlo.out]; exact Nat.le_refl _)
      rw [etk] at R
      obtain ⟨k, hk⟩ : ∃ k, sure % (M + 1) = k := ⟨_, rfl⟩
      have hkM : k ≤ M := by have := Nat.mod_lt sure (show 0 < M + 1 by omega); omega
      have tm := tmod_nat3 sure (M + 1)
      rw [hk] at tm
      have tm1 : (sure : Int).tmod ((M : Int) + 1) = (k : Int) := tm
      have z1 : ((M : Int) + 1 == 0) = false := by rw [beq_eq_false_iff_ne]; omega
      have z1' : ¬ (M : Int) + 1 = 0 := by omega
      have ws : IntKind.i64.wrap (sure : Int) = (sure : Int) := by rw [IntKind.wrap_i64]; omega
      have wM : IntKind.i64.wrap ((M : Int) + 1) = (M : Int) + 1 := by rw [IntKind.wrap_i64]; omega
      have wk : IntKind.i64.wrap (k : Int) = (k : Int) := by rw [IntKind.wrap_i64]; omega
      obtain ⟨q, hq⟩ : ∃ q, cut % (M - k + 1) = q := ⟨_, rfl⟩
      have hqM : q ≤ M - k := by have := Nat.mod_lt cut (show 0 < M - k + 1 by omega); omega
      have tq := tmod_nat3 cut (M - k + 1)
      rw [hq, show ((M - k + 1 : Nat) : Int) = (M : Int) - (k : Int) + 1 by omega] at tq
      have z2 : ((M : Int) - (k : Int) + 1 == 0) = false := by rw [beq_eq_false_iff_ne]; omega
      have z2' : ¬ (M : Int) - (k : Int) + 1 = 0 := by omega
      have wc : IntKind.i64.wrap (cut : Int) = (cut : Int) := by rw [IntKind.wrap_i64]; omega
      have w3a : IntKind.i64.wrap ((M : Int) - (k : Int)) = (M : Int) - (k : Int) := by rw [IntKind.wrap_i64]; omega
      have w3b : IntKind.i64.wrap ((M : Int) - (k : Int) + 1) = (M : Int) - (k : Int) + 1 := by rw [IntKind.wrap_i64]; omega
      have wq : IntKind.i64.wrap (q : Int) = (q : Int) := by rw [IntKind.wrap_i64]; omega
      obtain ⟨n, hn⟩ : ∃ n, k + q = n := ⟨_, rfl⟩
      have hnM : n ≤ M := by omega
      have hkn' : k ≤ n := by omega
      have wkq : IntKind.i64.wrap ((k : Int) + (q : Int)) = (n : Int) := by rw [IntKind.wrap_i64]; omega
      have hput4 := put_right (k := 4) (n := (k : Int)) (v := 0) (op_none wr 0 (c := 0) (s := 0) (n := 0) [] [] (by decide) (by decide) (by decide)) (Nat.zero_le _) (by decide) (by simp) (by simp) R.ob R.nbl (by omega) (err_recN (k := 4) (.inr rfl) (by omega))
      replace hput4 := Lib.hid hput4
      replace R := Lib.hid R
      replace hk := Lib.hid hk
      replace hq := Lib.hid hq
      replace hn := Lib.hid hn
      replace hkn' := Lib.hid hkn'
      replace hqM := Lib.hid hqM
      clear tm etk
      go_wp2_with fail
      refine hput4.out.mono ?_
      rintro e w3 ⟨A3, c3, rfl, ob3, nb3, hb3, hA3⟩
      obtain ⟨n3, hn3⟩ : ∃ n', nb + (framed (bytesP ⟨4, 0, (k : Int), ⟨0, 0, 0, [], [], []⟩⟩)).length = n' := ⟨_, rfl⟩
      rw [hn3] at ob3 nb3 ⊢
      have hl4 := len_recN (k := 4) (n := k) (.inr rfl)
      have hn3' : n3 ≤ 250000 := by suffices n3 = nb + 13 by omega
                                    rw [← hn3, framed_len]; have : (bytesP ⟨4, 0, (k : Int), ⟨0, 0, 0, [], [], []⟩⟩).length = 5 := hl4; omega
      clear hn3
      try dsimp only
      have R3 := R.out.below hb3
      have hput3 := put_right (k := 3) (n := (n : Int)) (v := 0) (op_none w3 0 (c := 0) (s := 0) (n := 0) [] [] (by decide) (by decide) (by decide)) (Nat.zero_le _) (by decide) (by simp) (by simp) ob3 nb3 (by omega) (err_recN (k := 3) (.inl rfl) (by omega))
      replace hput3 := Lib.hid hput3
      replace R3 := Lib.hid R3
      clear hput4 ob3 nb3
      go_wp2_with fail
      refine hput3.out.mono ?_
      rintro e w4 ⟨A4, c4, rfl, ob4, nb4, hb4, hA4⟩
      obtain ⟨n4, hn4⟩ : ∃ n', n3 + (framed (bytesP ⟨3, 0, (n : Int), ⟨0, 0, 0, [], [], []⟩⟩)).length = n' := ⟨_, rfl⟩
      rw [hn4] at ob4 nb4 ⊢
      replace hn4 := Lib.hid hn4
      try dsimp only
      have R4 := R3.out.below hb4
      have hcw := R4.LW.ho.le_cap
      rw [R4.lm] at hcw
      have hnc : n ≤ cw := by omega
      have hlm := R4.lm
      rw [List.length_map] at hlm
      have L4 := R4.LW.first (k := n) (by rw [R4.lm]; exact hnM)
      have R5 : JwRel w1 w2 w4 (jwRecs os k n []) ((os.map fun o => (2, o)).take n ++ [].map (fun o => (5, o))) n4 (n + 0) A4 c4 Aw n (xs2.take (n * 7)) css2 := by
        have e1 : jwRecs os k n [] = os.map (recO 2) ++ [recN 4 k] ++ [recN 3 n] := by unfold jwRecs; simp
        rw [e1, List.map_nil, List.append_nil, Nat.add_zero]
        refine ⟨ob4, nb4, L4, by rw [List.length_take, List.length_map, hlo.out]; omega, R4.bw, R4.hb, fun r hr => ?_⟩
        rcases List.mem_append.1 hr with h | h
        · rcases List.mem_append.1 h with h | h
          · exact R4.small r h
          · cases List.mem_singleton.1 h; rw [len_recN (.inr rfl)]; decide
        · cases List.mem_singleton.1 h; rw [len_recN (.inl rfl)]; decide
      have hbr4 := R5.hb
      replace R5 := Lib.hid R5
      clear R4 L4 ob4 nb4 R3 R hput3 hn3' hl4 hnb hnb2 hbr hiw
      go_wp2_with fail
      go_loopw [10, 11, 17] (fun s10 s11 s17 wr => ∃ (i nb : Nat) (Ab : Option Addr) (cb2 : Nat) (Aw : Option Addr) (cw : Nat) (xs2 : List Value) (css2 : Nat → Array Value) (mo : List OpD), s10 = .slice Ab nb cb2 ∧ s11 = .slice Aw (n + i) cw ∧ s17 = .int .i64 (i : Int) ∧ i ≤ N2 ∧ mo.length = i ∧ (∀ o ∈ mo, OpOk o) ∧ JwRel w1 w2 wr (jwRecs os k n mo) ((os.map fun o => (2, o)).take n ++ mo.map (fun o => (5, o))) nb (n + i) Ab cb2 Aw cw xs2 css2) (fun _ _ i _ => N2 - (intOf i).toNat)
      case atStart => exact ⟨0, n4, A4, c4, Aw, n, _, _, [], rfl, rfl, rfl, Nat.zero_le _, rfl, by simp, R5.out⟩
      case round =>
        clear R5 hbr4
        obtain ⟨i, nb, Ab, cb2, Aw, cw, xs2, css2, mo, rfl, rfl, rfl, hiN, hmo, hok, R⟩ := hrel
        have hiw : IntKind.i64.wrap ((i : Int) + 1) = ((i + 1 : Nat) : Int) := by rw [IntKind.wrap_i64]; omega
        have hbr := R.hb
        have hnb := R.nb_le
        have hrl : (jwRecs os k n mo).length = M + 2 + i := by unfold jwRecs; simp [hlo.out, hmo]; omega
        rw [hrl] at hnb
        have hnb2 : nb ≤ 300000 := by omega
        clear hnb hrl
        by_cases hlt : i < N2
        · have d4 : decide ((i : Int) < (N2 : Int)) = true := decide_eq_true (by omega)
          obtain ⟨ad, rq, rfl, -, hqi, hqc⟩ := hrb.out.cells (j := i) (by rw [hN2.out]; exact hlt)
          obtain ⟨-, q1, q2, q3, q4, q5, q6, q7, q8, q9⟩ := hqi
          obtain ⟨qG, qM, qK, qN, qF⟩ := rq
          dsimp only at q1 q2 q3 q4 q5 q6 q7 q8 q9 hqc
          have hqw := hqc wr (below_then hbr hb2)
          replace R := Lib.hid R
          clear hqc
          have hop := seat_op_walk (F := qF) wr q1 q2 q3 q4 q5 q6 q7 q8 q9
          replace hop := Lib.hid hop
          go_wp2_with fail
          clear hqw
          refine hop.out.mono ?_
          rintro e w6 ⟨gg, mm, ol, A6, c6, rfl, hgg, hmm, R6, hall, hl6, hb6⟩
          try dsimp only
          obtain ⟨H6, hok6⟩ := OpS.held hgg hmm R6 hall hl6
          obtain ⟨L, hL⟩ : ∃ L, ol.length = L := ⟨_, rfl⟩
          have hx6 := Blk.new w6 38 #[.int .u32 0, .int .u32 0, .int .u16 0, .string gg, .string mm, .slice A6 L c6]
          have hu6 : Upd (fun _ => False) w6 (w6.alloc (.cells #[.int .u32 0, .int .u32 0, .int .u16 0, .string gg, .string mm, .slice A6 L c6] 38)) := (Upd.refl _ w6).alloc _
          have hb7 := hb6.alloc hb6.size (.cells #[.int .u32 0, .int .u32 0, .int .u16 0, .string gg, .string mm, .slice A6 L c6] 38)
          obtain ⟨g5, hg5⟩ : ∃ g, w6.heap.size = g := ⟨_, rfl⟩
          have hg5w : wr.heap.size ≤ g5 := by rw [← hg5]; exact hb6.size
          rw [hg5] at hx6
          rw [hL] at H6 ⊢
          replace H6 := Lib.hid H6
          replace hL := Lib.hid hL
          clear R6 hop
          go_upto_region 25 with (fail)
          generalize w6.alloc (.cells #[.int .u32 0, .int .u32 0, .int .u16 0, .string gg, .string mm, .slice A6 L c6] 38) = w7 at *
          try rw [hg5]
          have hc0 : w7.cell? ⟨g5, 0, none⟩ = some (.int .u32 0) := hx6.cell 0
          have hc1 : w7.cell? ⟨g5, 1, none⟩ = some (.int .u32 0) := hx6.cell 1
          have hc2 : w7.cell? ⟨g5, 2, none⟩ = some (.int .u16 0) := hx6.cell 2
          have hf0 := hx6.frozen 0
          have hf1 := hx6.frozen 1
          have hf2 := hx6.frozen 2
          have wA : IntKind.u32.wrap ((i : Int) + 1) = (i : Int) + 1 := by unfold IntKind.wrap; simp [IntKind.bits, IntKind.signed]; omega
          have wA' : IntKind.u32.wrap ((i + 1 : Nat) : Int) = ((i + 1 : Nat) : Int) := by unfold IntKind.wrap; simp [IntKind.bits, IntKind.signed]; omega
          have hx8 : Blk (((w7.setCell ⟨g5, 0, none⟩ (.int .u32 9)).setCell ⟨g5, 1, none⟩ (.int .u32 ((i : Int) + 1))).setCell ⟨g5, 2, none⟩ (.int .u16 0)) g5 38 #[.int .u32 9, .int .u32 ((i : Int) + 1), .int .u16 0, .string gg, .string mm, .slice A6 L c6] := ((hx6.set_ 0 (.int .u32 9)).set_ 1 (.int .u32 ((i : Int) + 1))).set_ 2 (.int .u16 0)
          have hu8 := (((hu6.mono (T := fun g => g = g5) (fun _ _ hf => hf.elim)).setCell (p := ⟨g5, 0, none⟩) (fun _ => rfl) (.int .u32 9)).setCell (p := ⟨g5, 1, none⟩) (fun _ => rfl) (.int .u32 ((i : Int) + 1))).setCell (p := ⟨g5, 2, none⟩) (fun _ => rfl) (.int .u16 0)
          have hb8 := ((hb7.setCell (p := ⟨g5, 0, none⟩) hg5w (.int .u32 9)).setCell (p := ⟨g5, 1, none⟩) hg5w (.int .u32 ((i : Int) + 1))).setCell (p := ⟨g5, 2, none⟩) hg5w (.int .u16 0)
          replace hu8 := Lib.hid hu8
          replace hb8 := Lib.hid hb8
          replace hx8 := Lib.hid hx8
          clear hx6 hu6
          go_upto_region 26 with (fail)
          generalize ((w7.setCell ⟨g5, 0, none⟩ (.int .u32 9)).setCell ⟨g5, 1, none⟩ (.int .u32 ((i : Int) + 1))).setCell ⟨g5, 2, none⟩ (.int .u16 0) = w8 at *
          clear hc0 hc1 hc2 hf0 hf1 hf2 hb7
          have hx8 := hx8.out
          have hl8 := hx8.lt
          have H8 : OpHeld w8 (fun g => g < wr.heap.size) ⟨9, i + 1, 0, gg.data.toList, mm.data.toList, ol⟩ #[.int .u32 ((9 : Nat) : Int), .int .u32 ((i + 1 : Nat) : Int), .int .u16 ((0 : Nat) : Int), .string gg, .string mm, .slice A6 L c6] :=
            (H6.out.next hu8.out (fun g hg e => by omega) (fun g _ hp => hp)).id (by decide) (by omega) (by decide)
          have hO8 := (H8.reads).id (c' := 9) (s' := i + 1) (n' := 0) (by decide) (by omega) (by decide)
          have hok8 : OpOk ⟨9, i + 1, 0, gg.data.toList, mm.data.toList, ol⟩ := OpOk.ids (o := ⟨0, 0, 0, gg.data.toList, mm.data.toList, ol⟩) hok6 (by decide) (by omega)
          have R8 := R.out.below hb8.out
          have hlen7 := len_recO (v := 5) hok8
          have hput := put_right (k := 2) (n := 0) (v := 5) hO8 (Nat.le_refl _) (by decide) (by have h := hok8.g; dsimp only at h ⊢; omega) (by have h := hok8.m; dsimp only at h ⊢; omega) R8.ob R8.nbl (by omega) (err_recO (v := 5) hok8)
          replace hput := Lib.hid hput
          have hltr := Lib.hid (fun g (hg : bOf Aw = some g) => R.out.LW.ho.lt hg)
          replace R8 := Lib.hid R8
          have H8' : OpHeld w8 (fun g => g < wr.heap.size) ⟨9, i + 1, 0, gg.data.toList, mm.data.toList, ol⟩ #[.int .u32 9, .int .u32 ((i : Int) + 1), .int .u16 0, .string gg, .string mm, .slice A6 L c6] := H8
          clear H8
          replace H8' := Lib.hid H8'
          replace hok8 := Lib.hid hok8
          have hd0 : w8.cell? ⟨g5, 0, none⟩ = some (.int .u32 9) := hx8.cell 0
          have hd1 : w8.cell? ⟨g5, 1, none⟩ = some (.int .u32 ((i : Int) + 1)) := hx8.cell 1
          have hd2 : w8.cell? ⟨g5, 2, none⟩ = some (.int .u16 0) := hx8.cell 2
          have hd3 : w8.cell? ⟨g5, 3, none⟩ = some (.string gg) := hx8.cell 3
          have hd4 : w8.cell? ⟨g5, 4, none⟩ = some (.string mm) := hx8.cell 4
          have hd5 : w8.cell? ⟨g5, 5, none⟩ = some (.slice A6 L c6) := hx8.cell 5
          replace hx8 := Lib.hid hx8
          clear H6 R hok6 hu8 hO8
          go_wp2_with fail
          refine hput.out.mono ?_
          rintro e w9 ⟨A2, c2, rfl, ob9, nb9, hb9, hA2⟩
          obtain ⟨nb', hnb'⟩ : ∃ n', nb + (framed (bytesP ⟨2, 5, 0, ⟨9, i + 1, 0, gg.data.toList, mm.data.toList, ol⟩⟩)).length = n' := ⟨_, rfl⟩
          rw [hnb'] at ob9 nb9 ⊢
          replace hnb' := Lib.hid hnb'
          try dsimp only
          clear hd0 hd1 hd2 hd3 hd4 hd5 hput
          have hx9 := hx8.out.below hb9 hl8
          have hd0 : w9.cell? ⟨g5, 0, none⟩ = some (.int .u32 9) := hx9.cell 0
          have hd1 : w9.cell? ⟨g5, 1, none⟩ = some (.int .u32 ((i : Int) + 1)) := hx9.cell 1
          have hd2 : w9.cell? ⟨g5, 2, none⟩ = some (.int .u16 0) := hx9.cell 2
          have hd3 : w9.cell? ⟨g5, 3, none⟩ = some (.string gg) := hx9.cell 3
          have hd4 : w9.cell? ⟨g5, 4, none⟩ = some (.string mm) := hx9.cell 4
          have hd5 : w9.cell? ⟨g5, 5, none⟩ = some (.slice A6 L c6) := hx9.cell 5
          have hsrc := Reads.lit (size := 7) w9 #[.int .u64 5, .int .u32 9, .int .u32 ((i : Int) + 1), .int .u16 0, .string gg, .string mm, .slice A6 L c6] 42 (0, 0) 1 [.int .u64 5, .int .u32 9, .int .u32 ((i : Int) + 1), .int .u16 0, .string gg, .string mm, .slice A6 L c6] rfl rfl
          have hb10 := hb9.alloc hb9.size (.cells #[.int .u64 5, .int .u32 9, .int .u32 ((i : Int) + 1), .int .u16 0, .string gg, .string mm, .slice A6 L c6] 42)
          have hb10r := hb8.out.trans (hb10.mono hb8.out.size)
          have how7 := R8.out.LW.ho.below hb10 (Nat.le_refl _)
          have ob7 := ob9.alloc (.cells #[.int .u64 5, .int .u32 9, .int .u32 ((i : Int) + 1), .int .u16 0, .string gg, .string mm, .slice A6 L c6] 42)
          rw [R8.out.lm] at how7
          go_wp2_with (at_builtin; go_must (refine wpList_append_mine rfl _ _ 27 27 rfl 42 i0 _ 7 80 Try.underlying27 hi hz0 hz1 hz2 rfl rfl how7 rfl (Src.ofReads Try.underlying27 _ hsrc (by intro u hu; simp only [List.mem_cons, List.not_mem_nil, or_false] at hu; rcases hu with rfl | rfl | rfl | rfl | rfl | rfl | rfl <;> rfl)) (by unfold maxLen; omega) (by omega) (fun A10 c10 w10 ho10 hg10 hat10 => ?_)))
          have hAw := R8.out.bw
          have hltw : ∀ g, bOf Aw = some g → g < w8.heap.size := fun g hg => R8.out.LW.ho.lt hg
          have hu10 : Upd (fun x => some x = bOf Aw) (w9.alloc (.cells #[.int .u64 5, .int .u32 9, .int .u32 ((i : Int) + 1), .int .u16 0, .string gg, .string mm, .slice A6 L c6] 42)) w10 := (Upd.refl _ _).grown hg10 (fun k e _ => e.symm)
          have ob10 := ob7.upd hu10 (fun g hg e => by have h1 := hA2 g hg; have h2 := hltw g e.symm; omega)
          have h28 := R8.out.hb
          have hb210 := (below_then hb10 h28).grown hg10 (Nat.le_trans h28.size hb10.size) (fun g hg => hAw g hg)
          have hA10 : ∀ g, bOf A10 = some g → w2.heap.size ≤ g := fun g hg => by
            rcases hat10 with h | h <;> rw [h] at hg
            · exact hAw g hg
            · cases hg; exact Nat.le_trans h28.size hb10.size
          have h12 := hb2'.size
          have h2r := hbr.size
          have h8r := hb8.out.size
          have hO10 := H8'.out.next (P' := fun g => g < w1.heap.size ∨ some g = bOf A10) ((Upd.of_below_size (S := fun x => some x = bOf Aw) hb10).trans hu10 (fun _ _ e => e)) (fun g _ e => hltr.out g e.symm) (fun g hg hp => by
            rcases hp with h | h
            · omega
            · rcases hat10 with e | e <;> rw [e] at h
              · exact hltr.out g h.symm
              · cases h; have := hb10.size; omega)
          obtain ⟨xs3, css3, L10⟩ : ∃ xs3 css3, LogW w10 w1.heap.size A10 c10 (((os.map fun o => (2, o)).take n ++ mo.map (fun o => (5, o))) ++ [(5, (⟨9, i + 1, 0, gg.data.toList, mm.data.toList, ol⟩ : OpD))]) xs3 css3 := ⟨_, _, R8.out.LW.push (v := 5) (o := ⟨9, i + 1, 0, gg.data.toList, mm.data.toList, ol⟩) (cs := #[.int .u32 9, .int .u32 ((i : Int) + 1), .int .u16 0, .string gg, .string mm, .slice A6 L c6]) (by omega) hb10 (by rw [R8.out.lm]; exact ho10) hg10 hat10 hO10 (by decide)⟩
          have e1 : jwRecs os k n (mo ++ [⟨9, i + 1, 0, gg.data.toList, mm.data.toList, ol⟩]) = jwRecs os k n mo ++ [recO 5 ⟨9, i + 1, 0, gg.data.toList, mm.data.toList, ol⟩] := by unfold jwRecs; rw [List.map_append, ← List.append_assoc]; rfl
          have e2 : (os.map fun o => (2, o)).take n ++ (mo ++ [(⟨9, i + 1, 0, gg.data.toList, mm.data.toList, ol⟩ : OpD)]).map (fun o => (5, o)) = ((os.map fun o => (2, o)).take n ++ mo.map (fun o => (5, o))) ++ [(5, (⟨9, i + 1, 0, gg.data.toList, mm.data.toList, ol⟩ : OpD))] := by rw [List.map_append, ← List.append_assoc]; rfl
          refine ⟨⟨i + 1, nb', A2, c2, A10, c10, xs3, css3, mo ++ [⟨9, i + 1, 0, gg.data.toList, mm.data.toList, ol⟩], by rfl, by rfl, by simp [hiw], by omega, by simp [hmo], fun o ho => ?_, ?_⟩, by simp [intOf]; omega⟩
          · rcases List.mem_append.1 ho with h | h
            · exact hok o h
            · cases List.mem_singleton.1 h; exact hok8.out
          rw [e1, e2]
          exact ⟨ob10, nb9, L10, by rw [List.length_append, R8.out.lm]; rfl, hA10, hb210, fun r hr => by
            rcases List.mem_append.1 hr with h | h
            · exact R8.out.small r h
            · cases List.mem_singleton.1 h; exact hlen7⟩
        · have hie : i = N2 := by omega
          have d4 : decide ((i : Int) < (N2 : Int)) = false := decide_eq_false (by omega)
          have d4' : decide (i < N2) = false := decide_eq_false hlt
          have hol : os.length = M := hlo.out
          have hlaw := jw_law (os := os) (more := mo) (k := k) (n := n) hoko.out hok hkn'.out (by rw [hol]; exact hnM) (by omega) (by omega)
          have hnbl := R.nbl
          have hrc := rec_walk (b := allB (jwRecs os k n mo)) (c := cb2) (w := wr) (by rw [hnbl]; exact R.ob.reads_) (own_none_cap R.ob) (by rw [hnbl]; exact R.ob.le_cap) (by rw [hnbl]; omega)
          rw [hlaw, hnbl] at hrc
          have hlgl : ((os.map fun o => (2, o)).take n ++ mo.map (fun o => (5, o))).length = n + i := R.lm
          obtain ⟨lg, hlg⟩ : ∃ lg, (os.map fun o => (2, o)).take n ++ mo.map (fun o => (5, o)) = lg := ⟨_, rfl⟩
          have L0 := R.LW.reads
          rw [hlg] at hrc hlgl L0
          obtain ⟨m, hm⟩ : ∃ m, n + i = m := ⟨_, rfl⟩
          rw [hm] at hlgl ⊢
          have hm40 : m ≤ 40 := by omega
          replace hrc := Lib.hid hrc
          replace L0 := Lib.hid L0
          replace hlgl := Lib.hid hlgl
          clear hlaw R hnbl hie hlg hm
          go_wp2_with fail
          refine hrc.out.mono ?_
          rintro e w6 ⟨L', c', xs', css', rfl, hL', hb6⟩
          dsimp only at hL' ⊢
          rw [hlgl.out]
          have hx6 := Blk.new w6 49 #[.int .u64 0, .int .u64 0, .slice L' m c', .int .i64 (k : Int)]
          have hb7 := (Below.refl w6.heap.size w6).alloc (Nat.le_refl _) (.cells #[.int .u64 0, .int .u64 0, .slice L' m c', .int .i64 (k : Int)] 49)
          have hb67 := below_then hb7 hb6
          have hen : ∀ W2, Below w6.heap.size w6 W2 → Calls Try.prog 9 #[.slice L' m c', .slice Aw m cw] W2 (Says W2 (.bool true)) := fun W2 hW => by
            have h1 := (hL'.below hW).up hW.size
            have h2 := (L0.out.below (below_then hW hb6)).up (Nat.le_trans hb6.size hW.size)
            have := entries_true (c := c') (c' := cw) h1 h2 (Nat.le_refl _) (by rw [hlgl.out]; omega)
            rw [hlgl.out] at this
            exact this
          obtain ⟨g5, hg5⟩ : ∃ g, w6.heap.size = g := ⟨_, rfl⟩
          rw [hg5] at hx6
          replace hen := Lib.hid (hen _ hb7)
          clear hL' hrc
          go_upto_region 32 with (fail)
          generalize w6.alloc (.cells #[.int .u64 0, .int .u64 0, .slice L' m c', .int .i64 (k : Int)] 49) = w7 at *
          try rw [hg5]
          have hc0 : w7.cell? ⟨g5, 0, none⟩ = some (.int .u64 0) := hx6.cell 0
          have hc1 : w7.cell? ⟨g5, 1, none⟩ = some (.int .u64 0) := hx6.cell 1
          have hc2 : w7.cell? ⟨g5, 2, none⟩ = some (.slice L' m c') := hx6.cell 2
          have hc3 : w7.cell? ⟨g5, 3, none⟩ = some (.int .i64 (k : Int)) := hx6.cell 3
          clear hx6
          have hbe := below_then hb67 (below_then hbr hb2)
          replace hbe := Lib.hid hbe
          go_wp2_with fail
          refine hen.out.mono ?_
          rintro e w8 ⟨rfl, hb8⟩
          try dsimp only
          have hbf := below_then hb8 hbe.out
          go_wp2_with fail
          go_ret
          exact ⟨rfl, hbf⟩
theorem journalWhole_int {W : World} {A B : Option Addr} {ca cb' : Nat} {reqs more : List RqD} {xsa xsb : List Value} {cssa cssb : Nat → Array Value} (cut sure : Int) (hra : RowRq W W.heap.size A reqs xsa cssa) (hrb : RowRq W W.heap.size B more xsb cssb) (c0 : 0 ≤ cut) (c9 : cut ≤ 255) (s0 : 0 ≤ sure) (s9 : sure ≤ 255) :
    Calls Try.prog 3 #[.slice A reqs.length ca, .int .u8 cut, .slice B more.length cb', .int .u8 sure] W (fun e W' => e = .returned (.bool true) ∧ Below W.heap.size W W') := by
  obtain ⟨c, rfl⟩ : ∃ m : Nat, cut = (m : Int) := ⟨cut.toNat, by omega⟩
  obtain ⟨d, rfl⟩ : ∃ m : Nat, sure = (m : Int) := ⟨sure.toNat, by omega⟩
  exact journalWhole_walk c d hra hrb (by omega) (by omega)
end Go.Proofs.Ytlkokkbikkbaoaa
