/- choirlaw26.ViewlogKeeps. -/
import Derived.Test.YtfmmabkekjchjaaVl16
import Derived.Test.YtfmmabkekjchjaaVlTells
import Derived.Laws.BitsAllLaws
set_option linter.unusedSimpArgs false
set_option linter.unusedVariables false
namespace Go.Proofs.Ytfmmabkekjchjaa
open Go.RowKit
set_option maxRecDepth 100000

def rpV (A : Option Addr) (c : Nat) (x : RpD) : List Value := [.int .i64 x.f, .int .u64 (x.v : Int), .slice A x.l.length c, .int .i64 x.s]
def rpRow (A : Option Addr) (c : Nat) (l : List RpD) : List Value := l.flatMap (rpV A c)
theorem rpRow_at (A : Option Addr) (c : Nat) (l : List RpD) (j : Nat) (x : RpD) (h : l[j]? = some x) : ((rpRow A c l).drop (j * 4)).take 4 = rpV A c x := by
  unfold rpRow
  induction l generalizing j with
  | nil => cases h
  | cons y l ih =>
    have hey : (rpV A c y).length = 4 := rfl
    rw [List.flatMap_cons]
    cases j with
    | zero =>
      simp at h
      subst h
      rw [Nat.zero_mul, List.drop_zero, List.take_append_of_le_length (by rw [hey]; omega)]
      rfl
    | succ j =>
      rw [List.getElem?_cons_succ] at h
      rw [Nat.succ_mul, Nat.add_comm, ← List.drop_drop, List.drop_left' hey]
      exact ih j h
theorem rpRow_snoc (A : Option Addr) (c : Nat) (l : List RpD) (x : RpD) : rpRow A c (l ++ [x]) = rpRow A c l ++ rpV A c x := by simp [rpRow, List.flatMap_append]
theorem rps_row {w : World} {B c : Nat} {A Ar : Option Addr} {rs : List RpD} (hr : Reads w B 4 Ar rs.length (rpRow A c rs)) (hx : ∀ x ∈ rs, ∃ ys cst, LogR w B A c x.l ys cst) (hl : ∀ x ∈ rs, x.l.length ≤ 1000) : RpsR w B Ar rs (rpRow A c rs) (fun _ => A) (fun _ => c) :=
  ⟨hr, fun j x hj => hx x (List.mem_of_getElem? hj), fun j x hj => rpRow_at A c rs j x hj, hl⟩
theorem rsK_next (all : List (Nat × OpD)) (ms : Nat → Nat) (bit : Nat → Bool) (i : Nat) : rsK all ms bit (i + 1) = rsK all ms bit i ++ (if bit i = true then [rpK all ms i] else []) := by
  unfold rsK
  rw [List.range_succ, List.filter_append, List.map_append]
  cases h : bit i <;> simp [List.filter, h]
def msI (ms : Nat → Nat) (i : Nat) : List Int := (List.range i).map fun j => (ms j : Int)
theorem msI_next (ms : Nat → Nat) (i : Nat) : msI ms (i + 1) = msI ms i ++ [(ms i : Int)] := by simp [msI, List.range_succ]
theorem tmod_nat2 (a b : Nat) : (a : Int).tmod (b : Int) = ((a % b : Nat) : Int) := by rw [Int.tmod_eq_emod_of_nonneg (by omega)]; exact (Int.natCast_emod a b).symm
theorem msI_count (ms : Nat → Nat) (K : Nat) (x : Nat) : cntGe (msI ms K) (x : Int) K = (List.range K).countP fun j => decide (x ≤ ms j) := by
  unfold cntGe msI
  rw [List.take_of_length_le (by simp), List.countP_map]
  congr 1
  funext j
  simp

structure KpRel (w2 wr : World) (A1 : Option Addr) (c1 : Nat) (lg : List (Nat × OpD)) (ms : Nat → Nat) (bit : Nat → Bool) (i nr : Nat) (Aa : Option Addr) (ca : Nat) (Ar : Option Addr) (cr : Nat) : Prop where
  oa : Own wr 3 1 Aa i ca (ints (msI ms i))
  orr : Own wr 31 4 Ar nr cr (rpRow A1 c1 (rsK lg ms bit i))
  hn : (rsK lg ms bit i).length = nr
  ba : ∀ g, bOf Aa = some g → w2.heap.size ≤ g
  br : ∀ g, bOf Ar = some g → w2.heap.size ≤ g
  hb : Below w2.heap.size w2 wr

set_option maxHeartbeats 25600000 in
theorem viewlogKeeps_walk (n ww : Nat) {W : World} {A B : Option Addr} {ca cb' : Nat} {l lens : List UInt8} (hra : Reads W W.heap.size 1 A l.length (bys l)) (hrb : Reads W W.heap.size 1 B lens.length (bys lens)) (hn9 : n ≤ 255) (hw9 : ww ≤ 65535) :
    Calls Try.prog 6 #[.int .u8 (n : Int), .slice A l.length ca, .slice B lens.length cb', .int .u16 (ww : Int)] W (fun e W' => e = .returned (.bool true) ∧ Below W.heap.size W W') := by
  obtain ⟨i0, hi, hz0, hz1, hz2⟩ := info_parts info_int
  obtain ⟨i1, hi', hz0', hz1', hz2'⟩ := info_parts info_rpt
  have hkn := fun W => known_true W
  have hlA := fun W2 (hW : Below W.heap.size W W2) (h12 : l.length ≤ 12) => log_walk (c := ca) (hra.below hW) hW.size (by omega)
  generalize l.length = L at *
  obtain ⟨NL, hNL⟩ : ∃ NL, lens.length = NL := ⟨_, rfl⟩
  rw [hNL] at hrb ⊢
  have t7 : (n : Int).tmod 7 = ((n % 7 : Nat) : Int) := tmod_nat2 n 7
  obtain ⟨n7, hn7⟩ : ∃ n7, n % 7 = n7 := ⟨_, rfl⟩
  rw [hn7] at t7
  have hn6 : n7 ≤ 6 := by omega
  have w7' : IntKind.u8.wrap (n7 : Int) = (n7 : Int) := by unfold IntKind.wrap; simp [IntKind.bits, IntKind.signed]; omega
  obtain ⟨k, hk⟩ : ∃ k : Nat, (n7 : Int) + 1 = (k : Int) := ⟨n7 + 1, by omega⟩
  have hk1 : 1 ≤ k := by omega
  have hk7 : k ≤ 7 := by omega
  have hcK : clampI (k : Int) = (k : Int) := by unfold clampI; rw [if_neg (by omega), if_neg (by omega)]
  replace hkn := Lib.hid hkn
  replace hlA := Lib.hid hlA
  replace hrb := Lib.hid hrb
  replace hNL := Lib.hid hNL
  clear hra hn7
  go_enter Try.func6, Try.ntmps6
  go_wp2_with fail
  refine (hkn.out _).mono ?_
  rintro e w1 ⟨rfl, hb1⟩
  try dsimp only
  by_cases h12 : 12 < L
  · have d1 : decide ((12 : Int) < (L : Int)) = true := decide_eq_true (by omega)
    have d1' : decide (12 < L) = true := decide_eq_true h12
    go_wp2_with fail
    go_ret
    exact ⟨rfl, hb1⟩
  have d1 : decide ((12 : Int) < (L : Int)) = false := decide_eq_false (by omega)
  have d1' : decide (12 < L) = false := decide_eq_false h12
  by_cases hlk : NL < k
  · have d2 : decide ((NL : Int) < (k : Int)) = true := decide_eq_true (by omega)
    have d2' : decide (NL < k) = true := decide_eq_true hlk
    go_wp2_with fail
    go_ret
    exact ⟨rfl, hb1⟩
  have d2 : decide ((NL : Int) < (k : Int)) = false := decide_eq_false (by omega)
  have d2' : decide (NL < k) = false := decide_eq_false hlk
  go_wp2_with fail
  refine (hlA.out _ hb1 (by omega)).mono ?_
  rintro e w2 ⟨lg, A1, c1, xs1, css1, rfl, hl1, ok1, P1, hb2'⟩
  try dsimp only
  have hb2 := below_then hb2' hb1
  have hc1 := P1.ho.le_cap
  rw [hl1] at hc1
  have hz9 : ((L : Int) + 1 == 0) = false := by rw [beq_eq_false_iff_ne]; omega
  have hz9' : ¬ (L : Int) + 1 = 0 := by omega
  obtain ⟨ms, hms⟩ : ∃ ms : Nat → Nat, ms = fun j => (lens.getD j 0).toNat % (L + 1) := ⟨_, rfl⟩
  have hmsl : ∀ j, ms j ≤ L := fun j => by rw [hms]; have := Nat.mod_lt (lens.getD j 0).toNat (show 0 < L + 1 by omega); dsimp only; omega
  obtain ⟨bit, hbit⟩ : ∃ bit : Nat → Bool, bit = fun j => decide (ww / 2 ^ j % 2 = 1) := ⟨_, rfl⟩
  replace hms := Lib.hid hms
  replace hmsl := Lib.hid hmsl
  replace hbit := Lib.hid hbit
  replace hl1 := Lib.hid hl1
  replace ok1 := Lib.hid ok1
  clear hk
  go_wp2_with fail
  go_loopw [11, 12, 13] (fun s11 s12 s13 wr => ∃ (i nr : Nat) (Aa : Option Addr) (ca2 : Nat) (Ar : Option Addr) (cr : Nat), s11 = .slice Aa i ca2 ∧ s12 = .slice Ar nr cr ∧ s13 = .int .i64 (i : Int) ∧ i ≤ k ∧ nr ≤ i ∧ KpRel w2 wr A1 c1 lg ms bit i nr Aa ca2 Ar cr) (fun _ _ i _ => k - (intOf i).toNat)
  case atStart => exact ⟨0, 0, none, 0, none, 0, rfl, rfl, rfl, Nat.zero_le _, Nat.le_refl _, Own.none_, Own.none_, rfl, by simp [bOf], by simp [bOf], Below.refl _ _⟩
  case round =>
    obtain ⟨i, nr, Aa, ca2, Ar, cr, rfl, rfl, rfl, hik, hnr, R⟩ := hrel
    have hiw : IntKind.i64.wrap ((i : Int) + 1) = ((i + 1 : Nat) : Int) := by rw [IntKind.wrap_i64]; omega
    have hbr := R.hb
    by_cases hlt : i < k
    · have hin : i < NL := by omega
      have d3 : decide ((i : Int) < (k : Int)) = true := decide_eq_true (by omega)
      obtain ⟨ad, u, rfl, -, hu, hc⟩ := (hrb.out.below (below_then hbr hb2)).at_ hin
      have hx : lens[i]? = some (lens.getD i 0) := by
        rw [List.getD_eq_getElem?_getD]
        have : i < lens.length := by rw [hNL.out]; exact hin
        rw [List.getElem?_eq_getElem this]; rfl
      rw [show (bys lens)[i]? = some (byv (lens.getD i 0)) by simp only [bys, List.getElem?_map, hx, Option.map_some]] at hu
      cases hu
      have hmi : ms i = (lens.getD i 0).toNat % (L + 1) := by rw [hms.out]
      have hb9 := (lens.getD i 0).toNat_lt
      unfold byv at hc
      generalize (lens.getD i 0).toNat = xb at hc hmi hb9
      have tm := tmod_nat2 xb (L + 1)
      rw [← hmi] at tm
      have tm' : (xb : Int).tmod ((L : Int) + 1) = (ms i : Int) := tm
      have hml := hmsl.out i
      have wx : IntKind.i64.wrap (xb : Int) = (xb : Int) := by rw [IntKind.wrap_i64]; omega
      have wL : IntKind.i64.wrap ((L : Int) + 1) = (L : Int) + 1 := by rw [IntKind.wrap_i64]; omega
      obtain ⟨m, hm⟩ : ∃ m, ms i = m := ⟨_, rfl⟩
      rw [hm] at tm' hml
      have hmc : m ≤ c1 := by omega
      have hb0 : bit i = decide (ww / 2 ^ i % 2 = 1) := by rw [hbit.out]
      obtain ⟨bv, hbv⟩ : ∃ bv, ww / 2 ^ i % 2 = bv := ⟨_, rfl⟩
      have hbvl : bv < 2 := by omega
      have hand : bits .and .u16 ((ww : Int) / 2 ^ i) 1 = (bv : Int) := by
        have e1 : (ww : Int) / 2 ^ i = ((ww / 2 ^ i : Nat) : Int) := by rw [Int.natCast_ediv, Int.natCast_pow]; rfl
        have hle : ww / 2 ^ i ≤ ww := Nat.div_le_self _ _
        rw [e1, show (1 : Int) = ((1 : Nat) : Int) from rfl, u16_and_nat _ _ (by omega) (by omega), Nat.and_one_is_mod, hbv]
      rw [hbv] at hb0
      have hi16 : (i : Int) ≤ 16 := by omega
      have hi00 : (0 : Int) ≤ (i : Int) := by omega
      have oa := R.oa
      have orr := R.orr
      have hsrc := Reads.lit (size := 1) wr #[.int .i64 (m : Int)] 3 (0, 0) 1 [.int .i64 (m : Int)] rfl rfl
      have oa6 := oa.alloc (.cells #[.int .i64 (m : Int)] 3)
      have or6 := orr.alloc (.cells #[.int .i64 (m : Int)] 3)
      have hb6 := hbr.alloc hbr.size (.cells #[.int .i64 (m : Int)] 3)
      have hba := R.ba
      have hbrr := R.br
      have hne : ∀ g, bOf Ar = some g → bOf Aa ≠ some g := orr.ne_own oa (by decide)
      have hrn := R.hn
      replace hm := Lib.hid hm
      replace hmi := Lib.hid hmi
      replace hb0 := Lib.hid hb0
      replace hrn := Lib.hid hrn
      replace hne := Lib.hid hne
      replace hba := Lib.hid hba
      replace hbrr := Lib.hid hbrr
      clear R hx hbv tm hbit
      have hsrc := hsrc
      by_cases hb1' : bv = 1
      · have d4 : ((bv : Int) == 1) = true := by rw [hb1']; rfl
        have d4' : (bv == 1) = true := by rw [hb1']; rfl
        have hbt : bit i = true := by rw [hb0.out]; exact decide_eq_true hb1'
        replace hb1' := Lib.hid hb1'
        replace hbt := Lib.hid hbt
        go_wp2_with (at_builtin; first | (have _hq := hoA8; clear _hq; go_must (refine wpList_append_mine rfl _ _ 24 24 rfl 31 i1 _ 4 48 Try.underlying24 hi' hz0' hz1' hz2' rfl rfl or9 rfl (Src.ofReads Try.underlying24 _ hsrc9 (by intro u hu; simp only [List.mem_cons, List.not_mem_nil, or_false] at hu; rcases hu with rfl | rfl | rfl | rfl <;> rfl)) (by unfold maxLen; omega) (by omega) (fun A10 c10 w10 ho10 hg10 hat10 => ?_))) | (go_must (refine wpList_append_mine rfl _ _ 35 35 rfl 3 i0 _ 1 8 Try.underlying35 hi hz0 hz1 hz2 rfl rfl oa6 rfl (Src.ofReads Try.underlying35 _ hsrc (by intro u hu; simp at hu; subst hu; rfl)) (by unfold maxLen; omega) (by omega) (fun A8 c8 w8 hoA8 hg8 hat8 => ?_)); have hu8 : Upd (fun x => some x = bOf Aa) (wr.alloc (.cells #[.int .i64 (m : Int)] 3)) w8 := (Upd.refl _ _).grown hg8 (fun k e _ => e.symm); have or8 := or6.upd hu8 (fun g hg e => hne.out g hg e.symm); have hb8 := hb6.grown hg8 hb6.size (fun g hg => hba.out g hg); have hsrc9 := Reads.lit (size := 4) w8 #[.int .i64 (i : Int), .int .u64 9, .slice A1 m c1, .int .i64 0] 31 (0, 0) 1 [.int .i64 (i : Int), .int .u64 9, .slice A1 m c1, .int .i64 0] rfl rfl; have or9 := or8.alloc (.cells #[.int .i64 (i : Int), .int .u64 9, .slice A1 m c1, .int .i64 0] 31)))
        have hb9' := hb8.alloc hb8.size (.cells #[.int .i64 (i : Int), .int .u64 9, .slice A1 m c1, .int .i64 0] 31)
        have hA8 : ∀ g, bOf A8 = some g → w2.heap.size ≤ g := fun g hg => by
          rcases hat8 with h | h <;> rw [h] at hg
          · exact hba.out g hg
          · cases hg; exact hb6.size
        have hu10 : Upd (fun x => some x = bOf Ar) (w8.alloc (.cells #[.int .i64 (i : Int), .int .u64 9, .slice A1 m c1, .int .i64 0] 31)) w10 := (Upd.refl _ _).grown hg10 (fun k e _ => e.symm)
        have oa10 := (hoA8.alloc (.cells #[.int .i64 (i : Int), .int .u64 9, .slice A1 m c1, .int .i64 0] 31)).upd hu10 (fun g hg e => (or9.ne_own (hoA8.alloc (.cells #[.int .i64 (i : Int), .int .u64 9, .slice A1 m c1, .int .i64 0] 31)) (by decide)) g e.symm hg)
        have hb10 := hb9'.grown hg10 hb9'.size (fun g hg => hbrr.out g hg)
        have hA10 : ∀ g, bOf A10 = some g → w2.heap.size ≤ g := fun g hg => by
          rcases hat10 with h | h <;> rw [h] at hg
          · exact hbrr.out g hg
          · cases hg; exact hb9'.size
        have hxl : (rpK lg ms i).l.length = m := by unfold rpK; dsimp only; rw [List.length_take, hl1.out, hm.out]; omega
        refine ⟨⟨i + 1, nr + 1, A8, c8, A10, c10, by simp, by simp, by simp [hiw], by omega, by omega, ?_, ?_, ?_, hA8, hA10, hb10⟩, by simp [intOf]; omega⟩
        · rw [msI_next, hm.out]
          have : ints (msI ms i ++ [(m : Int)]) = ints (msI ms i) ++ [.int .i64 (m : Int)] := ints_snoc _ _
          rw [this]
          exact oa10
        · rw [rsK_next, hbt.out, if_pos rfl, rpRow_snoc]
          unfold rpV
          rw [hxl]
          exact ho10
        · rw [rsK_next, hbt.out, if_pos rfl, List.length_append, hrn.out]; rfl
      · have d4 : ((bv : Int) == 1) = false := by rw [beq_eq_false_iff_ne]; omega
        have d4' : (bv == 1) = false := by rw [beq_eq_false_iff_ne]; exact hb1'
        have hbt : bit i = false := by rw [hb0.out]; exact decide_eq_false hb1'
        replace hbt := Lib.hid hbt
        go_wp2_with (at_builtin; go_must (refine wpList_append_mine rfl _ _ 35 35 rfl 3 i0 _ 1 8 Try.underlying35 hi hz0 hz1 hz2 rfl rfl oa6 rfl (Src.ofReads Try.underlying35 _ hsrc (by intro u hu; simp at hu; subst hu; rfl)) (by unfold maxLen; omega) (by omega) (fun A8 c8 w8 hoA8 hg8 hat8 => ?_)))
        have hu8 : Upd (fun x => some x = bOf Aa) (wr.alloc (.cells #[.int .i64 (m : Int)] 3)) w8 := (Upd.refl _ _).grown hg8 (fun k e _ => e.symm)
        have or8 := or6.upd hu8 (fun g hg e => hne.out g hg e.symm)
        have hb8 := hb6.grown hg8 hb6.size (fun g hg => hba.out g hg)
        have hA8 : ∀ g, bOf A8 = some g → w2.heap.size ≤ g := fun g hg => by
          rcases hat8 with h | h <;> rw [h] at hg
          · exact hba.out g hg
          · cases hg; exact hb6.size
        refine ⟨⟨i + 1, nr, A8, c8, Ar, cr, by simp, by rfl, by simp [hiw], by omega, by omega, ?_, ?_, ?_, hA8, hbrr.out, hb8⟩, by simp [intOf]; omega⟩
        · rw [msI_next, hm.out]
          have : ints (msI ms i ++ [(m : Int)]) = ints (msI ms i) ++ [.int .i64 (m : Int)] := ints_snoc _ _
          rw [this]
          exact hoA8
        · rw [rsK_next, hbt.out]
          simpa using or8
        · rw [rsK_next, hbt.out]
          simpa using hrn.out
    · have hie : i = k := by omega
      have d3 : decide ((i : Int) < (k : Int)) = false := decide_eq_false (by omega)
      have d3' : decide (i < k) = false := decide_eq_false hlt
      have hL1 := fun W2 (hW : Below w2.heap.size w2 W2) => (P1.below hW).reads (S := fun _ => False) (Upd.refl _ W2) (fun _ hf => hf.elim)
      have hR := rps_row (w := wr) (B := wr.heap.size) (A := A1) (c := c1) (rs := rsK lg ms bit k) (Ar := Ar) (by have := R.orr.reads_; rw [hie] at this; rw [← hie, R.hn, hie]; exact this)
        (fun x hx => by
          unfold rsK at hx
          obtain ⟨j, -, rfl⟩ := List.mem_map.1 hx
          exact ⟨_, _, (hL1 wr hbr).first (k := ms j) (by rw [hl1.out]; exact hmsl.out j)⟩)
        (fun x hx => by
          unfold rsK at hx
          obtain ⟨j, -, rfl⟩ := List.mem_map.1 hx
          unfold rpK
          dsimp only
          rw [List.length_take, hl1.out]
          omega)
      have hnrk : (rsK lg ms bit k).length = nr := by rw [← hie]; exact R.hn
      have hch := vl_choose (n := (k : Int)) (c := cr) hR (Nat.le_refl _) (by rw [hnrk]; omega)
      rw [hnrk] at hch
      have hoa := R.oa
      rw [hie] at hoa
      have hmlen : (msI ms k).length = k := by simp [msI]
      replace hch := Lib.hid hch
      replace hL1 := Lib.hid hL1
      replace hmlen := Lib.hid hmlen
      replace hie := Lib.hid hie
      replace hnrk := Lib.hid hnrk
      clear R hR
      obtain ⟨wk, rfl⟩ : ∃ wk, wk = wr := ⟨_, rfl⟩
      go_wp2_with fail
      have hchw := hch.out
      rw [hie.out]
      refine hchw.mono ?_
      clear hchw
      rintro e w4 ⟨hb4, ⟨hno, rfl⟩ | ⟨hyes, A5, c5, ys5, cst5, rfl, P5⟩⟩
      · try dsimp only
        have hb5 := hb4.alloc hb4.size (.cells #[.int .i64 0, .int .u64 0, .slice none 0 0, .int .i64 0] 31)
        have hx5 := Blk.new w4 31 #[.int .i64 0, .int .u64 0, .slice none 0 0, .int .i64 0]
        go_upto_region 17 with (fail)
        generalize w4.alloc (.cells #[.int .i64 0, .int .u64 0, .slice none 0 0, .int .i64 0] 31) = w5 at *
        have hS0 : Below w5.heap.size w5 w5.drew := (Below.refl _ _).drew
        refine wp_region_lex (fun W => Below w5.heap.size w5 W) [4, 12, 15] [8, 18] [0, 1, 2, 3, 4, 5, 6, 7, 8, 9, 10, 11, 12, 13, 14, 15, 16, 17, 18, 19, 20, 21] (by kernel_rfl) rfl (by kernel_rfl) (by kernel_rfl) (fun _ _ d _ _ h => by cases d <;> exact h) ?_
        repeat (first | (refine lexG_take _ ?_ rfl rfl rfl rfl (fun _ => ?_) ?_; rotate_left; (focus (go_simp; with_reducible rfl)); try simp only [Act.put, List.setIfInBounds_toArray, List.set_cons_zero, List.set_cons_succ]) | (refine lexG_held _ ?_ rfl rfl rfl rfl (by assumption) (fun _ hSw => ?_) ?_; rotate_left; (focus ((try dsimp only at hSw); go_simp; with_reducible rfl)); try simp only [Act.put, List.setIfInBounds_toArray, List.set_cons_zero, List.set_cons_succ]) | (refine lexG_skip _ rfl rfl (by assumption) ?_; try simp only [Act.put, List.setIfInBounds_toArray, List.set_cons_zero, List.set_cons_succ]))
        refine lexG_nil ?_
        have hbe := below_then (below_then hS0 hb5) (below_then hbr hb2)
        go_wp2_with fail
        go_ret
        exact ⟨rfl, hbe⟩
      · obtain ⟨cf, hcf⟩ : ∃ x, (chooseS (k : Int) (rsK lg ms bit k)).1.f = x := ⟨_, rfl⟩
        obtain ⟨cv, hcv⟩ : ∃ x, (chooseS (k : Int) (rsK lg ms bit k)).1.v = x := ⟨_, rfl⟩
        obtain ⟨cn, hcn⟩ : ∃ x, (chooseS (k : Int) (rsK lg ms bit k)).1.l.length = x := ⟨_, rfl⟩
        obtain ⟨cs_, hcs5⟩ : ∃ x, chSure (k : Int) (rsK lg ms bit k) = x := ⟨_, rfl⟩
        have hlaw := keep_law (bit := bit) (fun j => by rw [hl1.out]; exact hmsl.out j) hcK hyes
        rw [hcn] at hlaw
        obtain ⟨mm, htk⟩ := (keep_inv (bit := bit) (fun j => by rw [hl1.out]; exact hmsl.out j) hcK).tk
        rw [htk] at hcn P5
        have hokt : OkLog (lg.take mm) := fun x hx => ok1.out x (List.mem_of_mem_take hx)
        rw [hokt.clean] at P5
        have htk2 : lg.take mm = lg.take cn := by
          rw [← hcn, List.length_take, hl1.out]
          rcases Nat.le_total mm L with h | h
          · rw [Nat.min_eq_left h]
          · rw [Nat.min_eq_right h, List.take_of_length_le (by rw [hl1.out]; exact h), List.take_of_length_le (by rw [hl1.out]; exact Nat.le_refl _)]
        rw [htk2] at P5 hcn
        have hcl : cn ≤ L := by rw [List.length_take, hl1.out] at hcn; omega
        have hcc : cn ≤ c1 := by omega
        have hsure := fun W2 (hW : Below wk.heap.size wk W2) => ref_sure (w := W2) (B := wk.heap.size) (c := ca2) (A := Aa) (l := msI ms k) (n := (k : Int)) (M := (cn : Int)) (by rw [hmlen.out]; exact hoa.reads_.below hW) hW.size (by rw [hmlen.out, hcK]) (by omega)
          (fun x hx hc => by
            unfold msI at hx
            obtain ⟨j, -, rfl⟩ := List.mem_map.1 hx
            rw [hmlen.out, msI_count, hcK] at hc
            have := hlaw (ms j) hc
            omega)
        rw [hmlen.out] at hsure
        rw [hcf, hcv, hcs5, htk, htk2, hcn]
        try dsimp only
        have hb5 := hb4.alloc hb4.size (.cells #[.int .i64 cf, .int .u64 (cv : Int), .slice A5 cn c5, .int .i64 cs_] 31)
        have hx5 := Blk.new w4 31 #[.int .i64 cf, .int .u64 (cv : Int), .slice A5 cn c5, .int .i64 cs_]
        have hb45 := (Below.refl w4.heap.size w4).alloc (Nat.le_refl _) (.cells #[.int .i64 cf, .int .u64 (cv : Int), .slice A5 cn c5, .int .i64 cs_] 31)
        obtain ⟨g4, hg4⟩ : ∃ g, w4.heap.size = g := ⟨_, rfl⟩
        rw [hg4] at hx5
        have hen : ∀ W2, Below w4.heap.size w4 W2 → Calls Try.prog 19 #[.slice A5 cn c5, .slice A1 cn c1] W2 (Says W2 (.bool true)) := fun W2 hW => by
          have h1 := (P5.below hW).reads (S := fun _ => False) (Upd.refl _ W2) (fun _ hf => hf.elim)
          have h2 := (hL1.out W2 (below_then (below_then hW hb4) hbr)).first (k := cn) (by rw [hl1.out]; exact hcl)
          have := entries_true (c := c5) (c' := c1) h1 h2 (Nat.le_refl _) (by rw [hcn]; omega)
          rw [hcn] at this
          exact this
        replace hen := Lib.hid hen
        replace hsure := Lib.hid hsure
        clear hlaw P5 hokt htk htk2 hcf hcv hcs5 hyes
        replace hcn := Lib.hid hcn
        go_upto_region 17 with (fail)
        generalize w4.alloc (.cells #[.int .i64 cf, .int .u64 (cv : Int), .slice A5 cn c5, .int .i64 cs_] 31) = w5 at *
        have hx5l := hx5.lt
        have hS0 : Below w5.heap.size w5 w5.drew := (Below.refl _ _).drew
        refine wp_region_lex (fun W => Below w5.heap.size w5 W) [4, 12, 15] [8, 18] [0, 1, 2, 3, 4, 5, 6, 7, 8, 9, 10, 11, 12, 13, 14, 15, 16, 17, 18, 19, 20, 21] (by kernel_rfl) rfl (by kernel_rfl) (by kernel_rfl) (fun _ _ d _ _ h => by cases d <;> exact h) ?_
        repeat (first | (refine lexG_take _ ?_ rfl rfl rfl rfl (fun _ => ?_) ?_; rotate_left; (focus (go_simp; with_reducible rfl)); try simp only [Act.put, List.setIfInBounds_toArray, List.set_cons_zero, List.set_cons_succ]) | (refine lexG_held _ ?_ rfl rfl rfl rfl (by assumption) (fun _ hSw => ?_) ?_; rotate_left; (focus (have h1 := (hx5.below hSw hx5l).st4; clear hSw; go_simp; with_reducible rfl)); try simp only [Act.put, List.setIfInBounds_toArray, List.set_cons_zero, List.set_cons_succ]) | (refine lexG_skip _ rfl rfl (by assumption) ?_; try simp only [Act.put, List.setIfInBounds_toArray, List.set_cons_zero, List.set_cons_succ]))
        refine lexG_now _ rfl rfl rfl (fun K0 hK => ?_)
        go_wp2_with fail
        have hsw := hsure.out w5.drew (below_then hS0 hb5)
        try rw [hie.out]
        refine hsw.mono ?_
        clear hsw
        rintro e w6 ⟨su, rfl, hsu, hb6⟩
        try dsimp only
        have hS1 := below_then hb6 hS0
        refine hK _ _ _ (fun _ h => h) hS1 ?_
        clear hK K0
        have d8 : decide (su ≤ (cn : Int)) = true := decide_eq_true hsu
        try simp only [Act.put, List.setIfInBounds_toArray, List.set_cons_zero, List.set_cons_succ]
        repeat (first | (refine lexG_take _ ?_ rfl rfl rfl rfl (fun _ => ?_) ?_; rotate_left; (focus (go_simp; with_reducible rfl)); try simp only [Act.put, List.setIfInBounds_toArray, List.set_cons_zero, List.set_cons_succ]) | (refine lexG_held _ ?_ rfl rfl rfl rfl (by assumption) (fun _ hSw => ?_) ?_; rotate_left; (focus (have h1 := (hx5.below hSw hx5l).st4; clear hSw; go_simp; with_reducible rfl)); try simp only [Act.put, List.setIfInBounds_toArray, List.set_cons_zero, List.set_cons_succ]) | (refine lexG_skip _ rfl rfl (by assumption) ?_; try simp only [Act.put, List.setIfInBounds_toArray, List.set_cons_zero, List.set_cons_succ]))
        refine lexG_now _ rfl rfl rfl (fun K0 hK => ?_)
        go_wp2_with fail
        refine (hen.out w6 (below_then hS1 hb45)).mono ?_
        rintro e w7 ⟨rfl, hb7⟩
        try dsimp only
        have hS2 := below_then hb7 hS1
        refine hK _ _ _ (fun _ h => h) hS2 ?_
        clear hK K0
        try simp only [Act.put, List.setIfInBounds_toArray, List.set_cons_zero, List.set_cons_succ]
        repeat (first | (refine lexG_take _ ?_ rfl rfl rfl rfl (fun _ => ?_) ?_; rotate_left; (focus (go_simp; with_reducible rfl)); try simp only [Act.put, List.setIfInBounds_toArray, List.set_cons_zero, List.set_cons_succ]) | (refine lexG_held _ ?_ rfl rfl rfl rfl (by assumption) (fun _ hSw => ?_) ?_; rotate_left; (focus (have h1 := (hx5.below hSw hx5l).st4; clear hSw; go_simp; with_reducible rfl)); try simp only [Act.put, List.setIfInBounds_toArray, List.set_cons_zero, List.set_cons_succ]) | (refine lexG_skip _ rfl rfl (by assumption) ?_; try simp only [Act.put, List.setIfInBounds_toArray, List.set_cons_zero, List.set_cons_succ]))
        refine lexG_nil ?_
        have hbe := below_then (below_then hS2 hb5) (below_then hbr hb2)
        go_wp2_with fail
        go_ret
        exact ⟨rfl, hbe⟩
theorem viewlogKeeps_int (n ww : Int) {W : World} {A B : Option Addr} {ca cb' : Nat} {l lens : List UInt8} (hra : Reads W W.heap.size 1 A l.length (bys l)) (hrb : Reads W W.heap.size 1 B lens.length (bys lens)) (n0 : 0 ≤ n) (n9 : n ≤ 255) (w0 : 0 ≤ ww) (w9 : ww ≤ 65535) :
    Calls Try.prog 6 #[.int .u8 n, .slice A l.length ca, .slice B lens.length cb', .int .u16 ww] W (fun e W' => e = .returned (.bool true) ∧ Below W.heap.size W W') := by
  obtain ⟨c, rfl⟩ : ∃ m : Nat, n = (m : Int) := ⟨n.toNat, by omega⟩
  obtain ⟨d, rfl⟩ : ∃ m : Nat, ww = (m : Int) := ⟨ww.toNat, by omega⟩
  exact viewlogKeeps_walk c d hra hrb (by omega) (by omega)
end Go.Proofs.Ytfmmabkekjchjaa
