/- call's reader: an id read. -/
import Derived.Test.YtlkokkbikkbaoaaRdX
set_option linter.unusedSimpArgs false
set_option linter.unusedVariables false
set_option linter.unusedSimpArgs false
set_option linter.unusedVariables false
namespace Go.Proofs.Ytlkokkbikkbaoaa
open Go.RowKit
set_option maxRecDepth 100000

theorem wrap_r32 (n : Nat) (h : n < 4294967296) : IntKind.u32.wrap (n : Int) = (n : Int) := by
  simp [IntKind.wrap, IntKind.bits, IntKind.signed]
  omega
theorem wrap_r16 (n : Nat) (h : n < 65536) : IntKind.u16.wrap (n : Int) = (n : Int) := by
  simp [IntKind.wrap, IntKind.bits, IntKind.signed]
  omega
theorem readU_4 (l : List UInt8) : readU (l.take 4) < 4294967296 := by
  refine Nat.lt_of_lt_of_le (readU_lt _) ?_
  rw [List.length_take]
  exact Nat.pow_le_pow_right (show 0 < 256 by decide) (show min 4 l.length ≤ 4 by omega)
theorem readU_2 (l : List UInt8) : readU (l.take 2) < 65536 := by
  refine Nat.lt_of_lt_of_le (readU_lt _) ?_
  rw [List.length_take]
  exact Nat.pow_le_pow_right (show 0 < 256 by decide) (show min 2 l.length ≤ 2 by omega)

set_option maxHeartbeats 1600000 in
theorem cid_ok {ad : Addr} {c B r : Nat} {b : List UInt8} {w : World} (h : CAt w r (some ad) b.length c 0) (hr : Reads w B 1 (some ad) b.length (bys b)) (hB : B ≤ r) (hc : b.length ≤ c) (hl : b.length ≤ 1000000000) (hat : 10 ≤ b.length)
    (c1 s1 n1 : Nat) (hc1 : readU (b.take 4) = c1) (hs1 : readU ((b.drop 4).take 4) = s1) (hn1 : readU ((b.drop 8).take 2) = n1) :
    Calls Try.prog 57 #[.pointer (some ⟨r, 0, none⟩)] w (fun e w' => e = .returned (.agg #[.int .u32 (c1 : Int), .int .u32 (s1 : Int), .int .u16 (n1 : Int)]) ∧ CAt w' r (some ad) b.length c 10 ∧ Upd (fun x => x = r) w w') := by
  have hw1 := wrap_r32 c1 (by rw [← hc1]; exact readU_4 _)
  have hw2 := wrap_r32 s1 (by rw [← hs1]; exact readU_4 _)
  have hw3 := wrap_r16 n1 (by rw [← hn1]; exact readU_2 _)
  have hrl : r < w.heap.size := Blk.lt h
  have hz := Blk.new w 35 #[.int .u32 0, .int .u32 0, .int .u16 0]
  have hb2 := (Below.refl w.heap.size w).alloc (Nat.le_refl _) (.cells #[.int .u32 0, .int .u32 0, .int .u16 0] 35)
  have hR2 : CAt (w.alloc (.cells #[.int .u32 0, .int .u32 0, .int .u16 0] 35)) r (some ad) b.length c 0 := Blk.alloc h (.cells #[.int .u32 0, .int .u32 0, .int .u16 0] 35)
  have hwz : w.heap.size < (w.alloc (.cells #[.int .u32 0, .int .u32 0, .int .u16 0] 35)).heap.size := by simp
  have hrx := fun (w1 : World) (hu : Upd (fun x => x = r) w w1) => hr.upd hu (fun k hk e => by omega) (by omega)
  obtain ⟨bl, hbl⟩ : ∃ bl, b.length = bl := ⟨_, rfl⟩
  have hn1' := fun w1 (h1 : CAt w1 r (some ad) b.length c 0) (hu : Upd (fun x => x = r) w w1) => cnumber_ok (k := 4) (at_ := 0) h1 (hrx w1 hu) hB hc hl (by omega) (by omega) (by omega) c1 (by rw [List.drop_zero]; exact hc1)
  have hn2' := fun w1 (h1 : CAt w1 r (some ad) b.length c 4) (hu : Upd (fun x => x = r) w w1) => cnumber_ok (k := 4) (at_ := 4) h1 (hrx w1 hu) hB hc hl (by omega) (by omega) (by omega) s1 hs1
  have hn3' := fun w1 (h1 : CAt w1 r (some ad) b.length c 8) (hu : Upd (fun x => x = r) w w1) => cnumber_ok (k := 2) (at_ := 8) h1 (hrx w1 hu) hB hc hl (by omega) (by omega) (by omega) n1 hn1
  rw [hbl] at hn1' hn2' hn3' hR2 ⊢
  replace hn1' := Lib.hid hn1'
  replace hn2' := Lib.hid hn2'
  replace hn3' := Lib.hid hn3'
  obtain ⟨z, hzz⟩ : ∃ z, w.heap.size = z := ⟨_, rfl⟩
  clear h hr hc hl hat hc1 hs1 hn1 hrx hbl
  go_enter Try.func57, Try.ntmps57
  go_wp2_with fail
  generalize w.alloc (.cells #[.int .u32 0, .int .u32 0, .int .u16 0] 35) = w2 at *
  have hu2 := Upd.of_below_size (S := fun x => x = r) hb2
  rw [hzz] at hz hwz hrl
  replace hzz := Lib.hid hzz
  refine (hn1'.out w2 hR2 hu2).mono ?_
  rintro e w3 ⟨rfl, hR3, hu3⟩
  dsimp only
  have hz3 := hz.upd hu3 (fun e => by omega)
  have hu3' := hu2.trans hu3 (fun _ _ h => h)
  clear hR2 hu2 hu3 hz hn1'
  go_wp2_with fail
  refine (hn2'.out w3 hR3 hu3').mono ?_
  rintro e w4 ⟨rfl, hR4, hu4⟩
  dsimp only
  have hz4 := hz3.upd hu4 (fun e => by omega)
  have hu4' := hu3'.trans hu4 (fun _ _ h => h)
  clear hR3 hu3' hu4 hz3 hn2'
  go_wp2_with fail
  refine (hn3'.out w4 hR4 hu4').mono ?_
  rintro e w5 ⟨rfl, hR5, hu5⟩
  dsimp only
  have hz5 := hz4.upd hu5 (fun e => by omega)
  have hu5' := hu4'.trans hu5 (fun _ _ h => h)
  clear hR4 hu4' hu5 hz4 hn3'
  have hzr := hz5.row #[.int .u32 (c1 : Int), .int .u32 (s1 : Int), .int .u16 (n1 : Int)]
  have hRr : CAt (w5.setRow z #[.int .u32 (c1 : Int), .int .u32 (s1 : Int), .int .u16 (n1 : Int)]) r (some ad) bl c 10 := Blk.farRow hR5 (by omega) #[.int .u32 (c1 : Int), .int .u32 (s1 : Int), .int .u16 (n1 : Int)]
  have hur := hu5'.setRow (g := z) (fun h => by have := hzz.out; omega) #[.int .u32 (c1 : Int), .int .u32 (s1 : Int), .int .u16 (n1 : Int)]
  clear hR5 hu5'
  go_wp2_with (refine store_row_gen rfl 35 (Operand.tmp 2) _ rfl z #[.int .u32 (c1 : Int), .int .u32 (s1 : Int), .int .u16 (n1 : Int)] (by simp [go_sem]) (by simp [go_sem]) 35 _ hz5 (by kernel_rfl) rfl (by simp [Value.oneCell']) (fun w9 hw9 => ?_); rw [← hw9] at hzr hRr hur; clear hw9)
  refine bodyPost_ret (v := .agg #[.int .u32 (c1 : Int), .int .u32 (s1 : Int), .int .u16 (n1 : Int)]) ?hr rfl ?_
  case hr => exact results_cell_row rfl _ _ z 35 _ (0, 0) _ rfl hzr Try.underlying35 rfl (by kernel_rfl)
  exact ⟨rfl, hRr, hur⟩

set_option maxHeartbeats 1600000 in
theorem cid_no {A : Option Addr} {c B r : Nat} {b : List UInt8} {w : World} (h : CAt w r A b.length c 0) (hr : Reads w B 1 A b.length (bys b)) (hA : A = none → c = 0) (hB : B ≤ r) (hc : b.length ≤ c) (hl : b.length ≤ 1000000000) (hat : b.length < 10) :
    Calls Try.prog 57 #[.pointer (some ⟨r, 0, none⟩)] w (fun e w' => e = .panicked shortC ∧ Upd (fun x => x = r) w w') := by
  have hrl : r < w.heap.size := Blk.lt h
  have hb2 := (Below.refl w.heap.size w).alloc (Nat.le_refl _) (.cells #[.int .u32 0, .int .u32 0, .int .u16 0] 35)
  have hR2 : CAt (w.alloc (.cells #[.int .u32 0, .int .u32 0, .int .u16 0] 35)) r A b.length c 0 := Blk.alloc h (.cells #[.int .u32 0, .int .u32 0, .int .u16 0] 35)
  have hwz : w.heap.size < (w.alloc (.cells #[.int .u32 0, .int .u32 0, .int .u16 0] 35)).heap.size := by simp
  by_cases h4 : b.length < 4
  · have hno := fun w1 (h1 : CAt w1 r A b.length c 0) => cnumber_no (k := 4) h1 hA hc hl (by omega) (by omega) (by omega)
    obtain ⟨bl, hbl⟩ : ∃ bl, b.length = bl := ⟨_, rfl⟩
    rw [hbl] at hno hR2
    replace hno := Lib.hid hno
    clear h hr hc hl hat hbl h4 hA
    go_enter Try.func57, Try.ntmps57
    go_wp2_with fail
    generalize w.alloc (.cells #[.int .u32 0, .int .u32 0, .int .u16 0] 35) = w2 at *
    refine (hno.out w2 hR2).mono ?_
    rintro e w3 ⟨rfl, hb3⟩
    dsimp only
    have hu := Upd.of_below_size (S := fun x => x = r) (below_then hb3 hb2)
    go_wp2_with fail
    exact ⟨rfl, rfl, hu⟩
  obtain ⟨ad, rfl⟩ : ∃ ad, A = some ad := by
    cases A with
    | none => have := hA rfl; omega
    | some ad => exact ⟨ad, rfl⟩
  have hrx := fun (w1 : World) (hu : Upd (fun x => x = r) w w1) => hr.upd hu (fun k hk e => by omega) (by omega)
  have hn1' := fun w1 (h1 : CAt w1 r (some ad) b.length c 0) (hu : Upd (fun x => x = r) w w1) => cnumber_ok (k := 4) (at_ := 0) h1 (hrx w1 hu) hB hc hl (by omega) (by omega) (by omega) _ rfl
  obtain ⟨c1, hc1⟩ : ∃ c1, readU ((b.drop 0).take 4) = c1 := ⟨_, rfl⟩
  have hw1 := wrap_r32 c1 (by rw [← hc1]; exact readU_4 _)
  rw [hc1] at hn1'
  by_cases h8 : b.length < 8
  · have hno := fun w1 (h1 : CAt w1 r (some ad) b.length c 4) => cnumber_no (k := 4) h1 hA hc hl (by omega) (by omega) (by omega)
    obtain ⟨bl, hbl⟩ : ∃ bl, b.length = bl := ⟨_, rfl⟩
    rw [hbl] at hno hR2 hn1'
    replace hno := Lib.hid hno
    replace hn1' := Lib.hid hn1'
    clear h hr hc hl hat hbl h4 hA hrx h8 hc1
    go_enter Try.func57, Try.ntmps57
    go_wp2_with fail
    generalize w.alloc (.cells #[.int .u32 0, .int .u32 0, .int .u16 0] 35) = w2 at *
    have hu2 := Upd.of_below_size (S := fun x => x = r) hb2
    refine (hn1'.out w2 hR2 hu2).mono ?_
    rintro e w3 ⟨rfl, hR3, hu3⟩
    dsimp only
    have hu3' := hu2.trans hu3 (fun _ _ h => h)
    go_wp2_with fail
    refine (hno.out w3 hR3).mono ?_
    rintro e w4 ⟨rfl, hb4⟩
    dsimp only
    have hu := hu3'.trans (Upd.of_below_size (S := fun x => x = r) hb4) (fun _ _ h => h)
    go_wp2_with fail
    exact ⟨rfl, rfl, hu⟩
  have hn2' := fun w1 (h1 : CAt w1 r (some ad) b.length c 4) (hu : Upd (fun x => x = r) w w1) => cnumber_ok (k := 4) (at_ := 4) h1 (hrx w1 hu) hB hc hl (by omega) (by omega) (by omega) _ rfl
  obtain ⟨s1, hs1⟩ : ∃ s1, readU ((b.drop 4).take 4) = s1 := ⟨_, rfl⟩
  have hw2 := wrap_r32 s1 (by rw [← hs1]; exact readU_4 _)
  rw [hs1] at hn2'
  have hno := fun w1 (h1 : CAt w1 r (some ad) b.length c 8) => cnumber_no (k := 2) h1 hA hc hl (by omega) (by omega) (by omega)
  obtain ⟨bl, hbl⟩ : ∃ bl, b.length = bl := ⟨_, rfl⟩
  rw [hbl] at hno hR2 hn1' hn2'
  replace hno := Lib.hid hno
  replace hn1' := Lib.hid hn1'
  replace hn2' := Lib.hid hn2'
  clear h hr hc hl hat hbl h4 hA hrx h8 hc1 hs1
  go_enter Try.func57, Try.ntmps57
  go_wp2_with fail
  generalize w.alloc (.cells #[.int .u32 0, .int .u32 0, .int .u16 0] 35) = w2 at *
  have hu2 := Upd.of_below_size (S := fun x => x = r) hb2
  refine (hn1'.out w2 hR2 hu2).mono ?_
  rintro e w3 ⟨rfl, hR3, hu3⟩
  dsimp only
  have hu3' := hu2.trans hu3 (fun _ _ h => h)
  go_wp2_with fail
  refine (hn2'.out w3 hR3 hu3').mono ?_
  rintro e w4 ⟨rfl, hR4, hu4⟩
  dsimp only
  have hu4' := hu3'.trans hu4 (fun _ _ h => h)
  go_wp2_with fail
  refine (hno.out w4 hR4).mono ?_
  rintro e w5 ⟨rfl, hb5⟩
  dsimp only
  have hu := hu4'.trans (Upd.of_below_size (S := fun x => x = r) hb5) (fun _ _ h => h)
  go_wp2_with fail
  exact ⟨rfl, rfl, hu⟩
end Go.Proofs.Ytlkokkbikkbaoaa
