/- choirref3.ReadOp at any bytes. -/
import Derived.Test.YtblakaddanoilaaReplyRef
import Derived.Test.YtblakaddanoilaaCallKnown
namespace Go.Proofs.Ytblakaddanoilaa
open Go.RowKit
set_option maxRecDepth 100000

theorem w64_le {e : Nat} (h : e ≤ 2000000000) : IntKind.i64.wrap (e : Int) = (e : Int) := w64_id _ (by omega) (by omega)
theorem w64_sum {a n s : Nat} (hs : a + n = s) (h : s ≤ 2000000000) : IntKind.i64.wrap ((a : Int) + (n : Int)) = (s : Int) := by
  rw [show (a : Int) + (n : Int) = (s : Int) by omega]; exact w64_le h
theorem w64_10 {n s : Nat} (hs : 10 + n = s) (h : s ≤ 2000000000) : IntKind.i64.wrap (10 + (n : Int)) = (s : Int) := by
  rw [show 10 + (n : Int) = (s : Int) by omega]; exact w64_le h
theorem w64_s1 {a s : Nat} (hs : a + 1 = s) (h : s ≤ 2000000000) : IntKind.i64.wrap ((a : Int) + 1) = (s : Int) := by
  rw [show (a : Int) + 1 = (s : Int) by omega]; exact w64_le h
theorem readT_two {b t : List UInt8} {m : Int} {n e : Nat} (h : readT b m = (t, n, e)) : (e = 0 ∧ 2 ≤ n ∧ n ≤ b.length) ∨ (t = [] ∧ n = 0 ∧ e = 20) := by
  unfold readT at h
  split at h
  · simp only [Prod.mk.injEq] at h
    obtain ⟨-, rfl, rfl⟩ := h
    left; omega
  · simp only [Prod.mk.injEq] at h
    obtain ⟨rfl, rfl, rfl⟩ := h
    right; exact ⟨rfl, rfl, rfl⟩
theorem rdV_nil : rdV [] = none := by rfl

def rdOpK (p : List UInt8 → Option (Val × Nat)) (b : List UInt8) (k at0 c1 s1 n1 : Nat) (t1 t2 : List UInt8) : Option (OpD × Nat) :=
  match pl p k (b.drop at0) with
  | none => none
  | some (l, q) => some (⟨c1, s1, n1, t1, t2, l⟩, at0 + q)

/-- What stands while a call's args are read. -/
structure QRel (b : List UInt8) (k at0 z y : Nat) (w wr : World) (c1 s1 n1 : Nat) (gg mm : ByteArray) (j : Nat) (l1 : List Val) (A : Option Addr) (c' : Nat) (xs : List Value) (css : Nat → Array Value) (at' : Nat) : Prop where
  jn : j ≤ k
  jl : l1.length = j
  hat : at' ≤ b.length
  hl : at0 ≤ at'
  hz : Blk wr z 29 #[.int .u32 0, .int .u32 0, .int .u16 0, .string ⟨#[]⟩, .string ⟨#[]⟩, .slice none 0 0]
  hy : Blk wr y 29 #[.int .u32 (c1 : Int), .int .u32 (s1 : Int), .int .u16 (n1 : Int), .string gg, .string mm, .slice A j c']
  R : VRow wr (y + 1) l1 A c' xs css
  hb : Below w.heap.size w wr
  pp : pl rdV k (b.drop at0) = (pl rdV (k - j) (b.drop at')).map (fun x => (l1 ++ x.1, (at' - at0) + x.2))

set_option maxHeartbeats 6400000 in
theorem ref_read_op {A : Option Addr} {c : Nat} {b : List UInt8} {w : World} (h : Reads w w.heap.size 1 A b.length (bys b)) (hc : b.length ≤ c) (hl : b.length ≤ 1000000000) (Q : Option (OpD × Nat)) (hQ : rdOp b = Q) :
    Calls Try.prog 12 #[.slice A b.length c] w (OpRd w Q) := by
  obtain ⟨i1, gi, gz0, gz1, gz2⟩ := info_parts info_val
  have hsf := fun a k x m w => run_store_float (P := Try.prog) a k x m w
  have hz := Blk.new w 29 #[.int .u32 0, .int .u32 0, .int .u16 0, .string ⟨#[]⟩, .string ⟨#[]⟩, .slice none 0 0]
  have hb2 := (Below.refl w.heap.size w).alloc (Nat.le_refl _) (.cells #[.int .u32 0, .int .u32 0, .int .u16 0, .string ⟨#[]⟩, .string ⟨#[]⟩, .slice none 0 0] 29)
  unfold rdOp at hQ
  by_cases h10 : b.length < 10
  · rw [if_pos h10] at hQ
    subst hQ
    obtain ⟨bl, hbl⟩ : ∃ bl, b.length = bl := ⟨_, rfl⟩
    rw [hbl] at h10 ⊢
    clear h hc hl hbl
    go_enter Try.func12, Try.ntmps12
    go_wp2_with fail
    generalize w.alloc (.cells #[.int .u32 0, .int .u32 0, .int .u16 0, .string ⟨#[]⟩, .string ⟨#[]⟩, .slice none 0 0] 29) = w2 at *
    obtain ⟨z, hzz⟩ : ∃ z, w.heap.size = z := ⟨_, rfl⟩
    rw [hzz] at hz ⊢
    have hzw : w.heap.size ≤ z := by omega
    have hzw2 : z ≤ w.heap.size := by omega
    replace hzz := Lib.hid hzz
    refine (ref_id_no h10).mono ?_
    rintro e w3 ⟨rfl, hb3⟩
    dsimp only
    have hz3 := (hz.below hb3 hz.lt).alloc (.cells #[.int .u32 0, .int .u32 0, .int .u16 0] 26)
    have hb3' := (below_then hb3 hb2).alloc (Nat.le_trans hb2.size hb3.size) (.cells #[.int .u32 0, .int .u32 0, .int .u16 0] 26)
    clear hz hb2 hb3
    have hzr := hz3.row #[.int .u32 0, .int .u32 0, .int .u16 0, .string ⟨#[]⟩, .string ⟨#[]⟩, .slice none 0 0]
    have hbr := below_row hb3' (g := z) hzw #[.int .u32 0, .int .u32 0, .int .u16 0, .string ⟨#[]⟩, .string ⟨#[]⟩, .slice none 0 0]
    go_wp2_with (refine store_row_gen rfl 29 (Operand.tmp 2) _ rfl z #[.int .u32 0, .int .u32 0, .int .u16 0, .string ⟨#[]⟩, .string ⟨#[]⟩, .slice none 0 0] (by simp [go_sem]) (by simp [go_sem]) 29 _ hz3 (by kernel_rfl) rfl (by simp [Value.oneCell']) (fun w9 hw9 => ?_); rw [← hw9] at hzr hbr; clear hw9)
    refine bodyPost_ret (v := .tuple #[.agg #[.int .u32 0, .int .u32 0, .int .u16 0, .string ⟨#[]⟩, .string ⟨#[]⟩, .slice none 0 0], .int .i64 0, .int .i64 20]) (by exact results_ctt rfl _ _ z 29 _ (0, 0) _ _ _ rfl rfl rfl hzr Try.underlying29 rfl (by kernel_rfl)) rfl ?_
    exact ⟨rfl, hbr⟩
  rw [if_neg h10] at hQ
  obtain ⟨ad, rfl, -, -⟩ := h.2 (by omega)
  obtain ⟨c1, hc1⟩ : ∃ c1, readU (b.take 4) = c1 := ⟨_, rfl⟩
  obtain ⟨s1, hs1⟩ : ∃ s1, readU ((b.drop 4).take 4) = s1 := ⟨_, rfl⟩
  obtain ⟨n1, hn1⟩ : ∃ n1, readU ((b.drop 8).take 2) = n1 := ⟨_, rfl⟩
  rw [hc1, hs1, hn1] at hQ
  have hid := fun (W : World) (hb : Below w.heap.size w W) => ref_id_ok ((h.below hb).more hb.size) hc hl (by omega) c1 s1 n1 hc1 hs1 hn1
  have hcutx : ∀ a, a ≤ b.length → ∀ (W : World), Below w.heap.size w W → Reads W W.heap.size 1 (if c = a then some ad else some (ad.add a)) (b.drop a).length (bys (b.drop a)) := fun a ha W hb => by
    have hcut := ((h.below hb).more hb.size).cut (k := a) (cap := c) ha hc
    rw [Nat.mul_one, bys_drop, ← List.length_drop] at hcut
    exact hcut
  obtain ⟨T1, hT1⟩ : ∃ T1, readT (b.drop 10) 32 = T1 := ⟨_, rfl⟩
  rw [hT1] at hQ
  obtain ⟨t1, m1, e1⟩ := T1
  dsimp only at hQ
  have hx1 := fun (W : World) (hb : Below w.heap.size w W) => ref_read_text (c := c - 10) (hcutx 10 (by omega) W hb) (by rw [List.length_drop]; omega) (by rw [List.length_drop]; omega) hT1
  rw [List.length_drop] at hx1
  have hf1 := readT_two hT1
  rw [List.length_drop] at hf1
  have hxa : ∀ a t m e, a ≤ b.length → readT (b.drop a) 32 = (t, m, e) → ∀ (W : World), Below w.heap.size w W → Calls Try.prog 40 #[.slice (if c = a then some ad else some (ad.add a)) (b.length - a) (c - a), .int .i64 32] W (TextRes W (t, m, e)) := fun a t m e ha hT W hb => by
    have := ref_read_text (c := c - a) (hcutx a ha W hb) (by rw [List.length_drop]; omega) (by rw [List.length_drop]; omega) hT
    rw [List.length_drop] at this
    exact this
  have hva : ∀ a, a ≤ b.length → ∀ (W : World), Below w.heap.size w W → Calls Try.prog 41 #[.slice (if c = a then some ad else some (ad.add a)) (b.length - a) (c - a)] W (RdRes W (rdV (b.drop a))) := fun a ha W hb => by
    have := ref_read_v (c := c - a) (hcutx a ha W hb) (by rw [List.length_drop]; omega) (by rw [List.length_drop]; omega)
    rw [List.length_drop] at this
    exact this
  have hca : ∀ (a : Nat) (ha : a < b.length) (W : World), Below w.heap.size w W → W.cell? (ad.add a) = some (.int .u8 ((b[a].toNat : Nat) : Int)) := fun a ha W hb => by
    obtain ⟨ad', u, he, -, hu, hcell⟩ := (h.below hb).at_ ha
    cases he
    rw [hcell, ← hu]
    simp [bys, byv, List.getElem?_eq_getElem ha]
  have hdr : ∀ a, (b.drop a).length = b.length - a := fun a => List.length_drop ..
  obtain ⟨bl, hbl⟩ : ∃ bl, b.length = bl := ⟨_, rfl⟩
  have hbl' := hbl
  rw [hbl] at h10 hid hx1 hf1 hc hl hQ ⊢
  replace hid := Lib.hid hid
  replace hx1 := Lib.hid hx1
  replace hxa := Lib.hid hxa
  replace hva := Lib.hid hva
  replace hca := Lib.hid hca
  replace hdr := Lib.hid hdr
  replace hQ := Lib.hid hQ
  replace hbl := Lib.hid hbl
  clear h hc1 hs1 hn1 hT1 hcutx hbl'
  go_enter Try.func12, Try.ntmps12
  go_wp2_with fail
  generalize w.alloc (.cells #[.int .u32 0, .int .u32 0, .int .u16 0, .string ⟨#[]⟩, .string ⟨#[]⟩, .slice none 0 0] 29) = w2 at *
  obtain ⟨z, hzz⟩ : ∃ z, w.heap.size = z := ⟨_, rfl⟩
  rw [hzz] at hz ⊢
  have hzw : w.heap.size ≤ z := by omega
  have hzw2 : z ≤ w.heap.size := by omega
  replace hzz := Lib.hid hzz
  refine (hid.out w2 hb2).mono ?_
  rintro e w3 ⟨rfl, hb3⟩
  dsimp only
  have hz3 := (hz.below hb3 hz.lt).alloc (.cells #[.int .u32 (c1 : Int), .int .u32 (s1 : Int), .int .u16 (n1 : Int)] 26)
  have hi3 := Blk.new w3 26 #[.int .u32 (c1 : Int), .int .u32 (s1 : Int), .int .u16 (n1 : Int)]
  have hb3' := (below_then hb3 hb2).alloc (Nat.le_trans hb2.size hb3.size) (.cells #[.int .u32 (c1 : Int), .int .u32 (s1 : Int), .int .u16 (n1 : Int)] 26)
  have hs3 : z < w3.heap.size := Nat.lt_of_lt_of_le hz.lt hb3.size
  clear hz hb2 hb3 hid
  have h10i : (10 : Int) ≤ (bl : Int) := by omega
  have hi3c := hi3.id3
  have hz4 := hz3.alloc (.cells #[.int .u32 (c1 : Int), .int .u32 (s1 : Int), .int .u16 (n1 : Int), .string ⟨#[]⟩, .string ⟨#[]⟩, .slice none 0 0] 29)
  have hy4 := Blk.new (w3.alloc (.cells #[.int .u32 (c1 : Int), .int .u32 (s1 : Int), .int .u16 (n1 : Int)] 26)) 29 #[.int .u32 (c1 : Int), .int .u32 (s1 : Int), .int .u16 (n1 : Int), .string ⟨#[]⟩, .string ⟨#[]⟩, .slice none 0 0]
  have hb4 := hb3'.alloc hb3'.size (.cells #[.int .u32 (c1 : Int), .int .u32 (s1 : Int), .int .u16 (n1 : Int), .string ⟨#[]⟩, .string ⟨#[]⟩, .slice none 0 0] 29)
  rcases hf1 with ⟨rfl, hm1, hm1b⟩ | ⟨rfl, rfl, rfl⟩
  case inr =>
    have hQn : Q = none := by rw [← hQ.out, if_pos (by decide)]
    subst hQn
    by_cases hcc : c = 10
    all_goals
      replace hx1 := hx1.out _ hb4
      first | (have hbe : bl = 10 := by omega); subst hbe hcc; rw [if_pos rfl, Nat.sub_self] at hx1 | rw [if_neg hcc] at hx1
      go_wp2_with fail
      refine hx1.mono ?_
      rintro e w5 ⟨rfl, hb5⟩
      dsimp only
      have hz5 := hz4.below hb5 hz4.lt
      have hy5 := hy4.below hb5 hy4.lt
      have hb5' := below_then hb5 hb4
      rw [World.size_alloc] at hy5
      have hz6 := hz5.far (p := ⟨w3.heap.size + 1, 3, none⟩) (show z ≠ w3.heap.size + 1 by omega) (.string (bstr []))
      have hb6 := hb5'.setCell (p := ⟨w3.heap.size + 1, 3, none⟩) (show w.heap.size ≤ w3.heap.size + 1 by omega) (.string (bstr []))
      have hyc := hy5.op6
      have hyf := hy5.frozen 3
      clear hz3 hi3 hi3c hb3' hz4 hy4 hb4 hx1 hb5 hz5 hb5' hy5
      have hzr := hz6.row #[.int .u32 0, .int .u32 0, .int .u16 0, .string ⟨#[]⟩, .string ⟨#[]⟩, .slice none 0 0]
      have hbr := below_row hb6 (g := z) hzw #[.int .u32 0, .int .u32 0, .int .u16 0, .string ⟨#[]⟩, .string ⟨#[]⟩, .slice none 0 0]
      go_wp2_with (refine store_row_gen rfl 29 (Operand.tmp 2) _ rfl z #[.int .u32 0, .int .u32 0, .int .u16 0, .string ⟨#[]⟩, .string ⟨#[]⟩, .slice none 0 0] (by simp [go_sem]) (by simp [go_sem]) 29 _ hz6 (by kernel_rfl) rfl (by simp [Value.oneCell']) (fun w9 hw9 => ?_); rw [← hw9] at hzr hbr; clear hw9)
      refine bodyPost_ret (v := .tuple #[.agg #[.int .u32 0, .int .u32 0, .int .u16 0, .string ⟨#[]⟩, .string ⟨#[]⟩, .slice none 0 0], .int .i64 0, .int .i64 20]) (by exact results_ctt rfl _ _ z 29 _ (0, 0) _ _ _ rfl rfl rfl hzr Try.underlying29 rfl (by kernel_rfl)) rfl ?_
      exact ⟨rfl, hbr⟩
  obtain ⟨y, hy⟩ : ∃ y, w3.heap.size + 1 = y := ⟨_, rfl⟩
  rw [World.size_alloc, hy] at hy4
  have hzy : z < y := by omega
  replace hx1 := hx1.out _ hb4
  rw [if_neg (show ¬ c = 10 by omega)] at hx1
  go_wp2_with fail
  generalize (w3.alloc (.cells #[.int .u32 (c1 : Int), .int .u32 (s1 : Int), .int .u16 (n1 : Int)] 26)).alloc (.cells #[.int .u32 (c1 : Int), .int .u32 (s1 : Int), .int .u16 (n1 : Int), .string ⟨#[]⟩, .string ⟨#[]⟩, .slice none 0 0] 29) = w4 at *
  replace hy := Lib.hid hy
  refine hx1.mono ?_
  rintro e w5 ⟨rfl, hb5⟩
  dsimp only
  obtain ⟨gg, hgg⟩ : ∃ gg, bstr t1 = gg := ⟨_, rfl⟩
  rw [hgg]
  have hz5 := (hz4.below hb5 hz4.lt).far (p := ⟨y, 3, none⟩) (show z ≠ y by omega) (.string gg)
  have hy5 := hy4.below hb5 hy4.lt
  have hy6 := hy5.set_ 3 (.string gg)
  have hb5' := (below_then hb5 hb4).setCell (p := ⟨y, 3, none⟩) (show w.heap.size ≤ y by omega) (.string gg)
  have hyc := hy5.op6
  have hyf := hy5.frozen 3
  have hQ2 := hQ.out
  rw [if_neg (by decide)] at hQ2
  obtain ⟨a1, ha1⟩ : ∃ a1, 10 + m1 = a1 := ⟨_, rfl⟩
  rw [ha1] at hQ2
  have hw1 := w64_10 ha1 (by omega)
  have ha1l : a1 ≤ bl := by omega
  have ha1i : (a1 : Int) ≤ (bl : Int) := by omega
  obtain ⟨T2, hT2⟩ : ∃ T2, readT (b.drop a1) 32 = T2 := ⟨_, rfl⟩
  rw [hT2] at hQ2
  obtain ⟨t2, m2, e2⟩ := T2
  dsimp only at hQ2
  have hf2 := readT_two hT2
  rw [hdr.out, hbl.out] at hf2
  have hx2 := hxa.out a1 t2 m2 e2 (by rw [hbl.out]; exact ha1l) hT2 _ hb5'
  rw [hbl.out] at hx2
  replace ha1 := Lib.hid ha1
  replace hQ2 := Lib.hid hQ2
  replace hgg := Lib.hid hgg
  clear hz4 hy4 hb4 hx1 hb5 hz3 hi3 hi3c hb3' hT2 hQ
  rcases hf2 with ⟨rfl, hm2, hm2b⟩ | ⟨rfl, rfl, rfl⟩
  case inr =>
    have hQn : Q = none := by rw [← hQ2.out, if_pos (by decide)]
    subst hQn
    by_cases hcc : c = a1
    all_goals
      first | (have hbe : bl = a1 := by omega); subst hbe hcc; rw [if_pos rfl, Nat.sub_self] at hx2 | rw [if_neg hcc] at hx2
      go_wp2_with fail
      generalize w5.setCell ⟨y, 3, none⟩ (.string gg) = w6 at *
      refine hx2.mono ?_
      rintro e w7 ⟨rfl, hb7⟩
      dsimp only
      have hz7 := hz5.below hb7 hz5.lt
      have hy7 := hy6.below hb7 hy6.lt
      have hb7' := below_then hb7 hb5'
      have hz8 := hz7.far (p := ⟨y, 4, none⟩) (show z ≠ y by omega) (.string (bstr []))
      have hb8 := hb7'.setCell (p := ⟨y, 4, none⟩) (show w.heap.size ≤ y by omega) (.string (bstr []))
      have hyc2 := (hy7.op6 : _)
      have hyf2 := hy7.frozen 4
      clear hyc hyf hz5 hy5 hy6 hb5' hx2 hb7 hz7 hb7' hy7
      have hzr := hz8.row #[.int .u32 0, .int .u32 0, .int .u16 0, .string ⟨#[]⟩, .string ⟨#[]⟩, .slice none 0 0]
      have hbr := below_row hb8 (g := z) hzw #[.int .u32 0, .int .u32 0, .int .u16 0, .string ⟨#[]⟩, .string ⟨#[]⟩, .slice none 0 0]
      go_wp2_with (refine store_row_gen rfl 29 (Operand.tmp 2) _ rfl z #[.int .u32 0, .int .u32 0, .int .u16 0, .string ⟨#[]⟩, .string ⟨#[]⟩, .slice none 0 0] (by simp [go_sem]) (by simp [go_sem]) 29 _ hz8 (by kernel_rfl) rfl (by simp [Value.oneCell']) (fun w9 hw9 => ?_); rw [← hw9] at hzr hbr; clear hw9)
      refine bodyPost_ret (v := .tuple #[.agg #[.int .u32 0, .int .u32 0, .int .u16 0, .string ⟨#[]⟩, .string ⟨#[]⟩, .slice none 0 0], .int .i64 0, .int .i64 20]) (by exact results_ctt rfl _ _ z 29 _ (0, 0) _ _ _ rfl rfl rfl hzr Try.underlying29 rfl (by kernel_rfl)) rfl ?_
      exact ⟨rfl, hbr⟩
  rw [if_neg (show ¬ c = a1 by omega)] at hx2
  go_wp2_with fail
  generalize w5.setCell ⟨y, 3, none⟩ (.string gg) = w6 at *
  refine hx2.mono ?_
  rintro e w7 ⟨rfl, hb7⟩
  dsimp only
  obtain ⟨mm, hmm⟩ : ∃ mm, bstr t2 = mm := ⟨_, rfl⟩
  rw [hmm]
  have hz7 := (hz5.below hb7 hz5.lt).far (p := ⟨y, 4, none⟩) (show z ≠ y by omega) (.string mm)
  have hy7 := hy6.below hb7 hy6.lt
  have hy8 := hy7.set_ 4 (.string mm)
  have hb7' := (below_then hb7 hb5').setCell (p := ⟨y, 4, none⟩) (show w.heap.size ≤ y by omega) (.string mm)
  have hyc2 := (hy7.op6 : _)
  have hyf2 := hy7.frozen 4
  have hQ3 := hQ2.out
  rw [if_neg (by decide)] at hQ3
  obtain ⟨a2, ha2⟩ : ∃ a2, a1 + m2 = a2 := ⟨_, rfl⟩
  rw [ha2] at hQ3
  have hw2 := w64_sum ha2 (by omega)
  have ha2l : a2 ≤ bl := by omega
  replace ha2 := Lib.hid ha2
  replace hQ3 := Lib.hid hQ3
  replace hmm := Lib.hid hmm
  clear hyc hyf hz5 hy5 hy6 hb5' hx2 hb7 hQ2
  by_cases h2e : bl ≤ a2
  · have hQn : Q = none := by rw [← hQ3.out, if_pos (by omega)]
    subst hQn
    have hd : decide ((bl : Int) ≤ (a2 : Int)) = true := decide_eq_true (by omega)
    have hzr := hz7.row #[.int .u32 0, .int .u32 0, .int .u16 0, .string ⟨#[]⟩, .string ⟨#[]⟩, .slice none 0 0]
    have hbr := below_row hb7' (g := z) hzw #[.int .u32 0, .int .u32 0, .int .u16 0, .string ⟨#[]⟩, .string ⟨#[]⟩, .slice none 0 0]
    go_wp2_with (refine store_row_gen rfl 29 (Operand.tmp 2) _ rfl z #[.int .u32 0, .int .u32 0, .int .u16 0, .string ⟨#[]⟩, .string ⟨#[]⟩, .slice none 0 0] (by simp [go_sem]) (by simp [go_sem]) 29 _ hz7 (by kernel_rfl) rfl (by simp [Value.oneCell']) (fun w9 hw9 => ?_); rw [← hw9] at hzr hbr; clear hw9)
    refine bodyPost_ret (v := .tuple #[.agg #[.int .u32 0, .int .u32 0, .int .u16 0, .string ⟨#[]⟩, .string ⟨#[]⟩, .slice none 0 0], .int .i64 0, .int .i64 20]) (by exact results_ctt rfl _ _ z 29 _ (0, 0) _ _ _ rfl rfl rfl hzr Try.underlying29 rfl (by kernel_rfl)) rfl ?_
    exact ⟨rfl, hbr⟩
  have hcell := hca.out a2 (by rw [hbl.out]; omega) _ hb7'
  have hbd : b.drop a2 = b[a2]'(by rw [hbl.out]; omega) :: b.drop (a2 + 1) := List.drop_eq_getElem_cons _
  obtain ⟨x, hx⟩ : ∃ x, b[a2]'(by rw [hbl.out]; omega) = x := ⟨_, rfl⟩
  rw [hx] at hcell hbd
  have hQ4 := hQ3.out
  rw [if_neg (show ¬ bl < a2 + 1 by omega), hbd] at hQ4
  rw [show (x :: b.drop (a2 + 1)).take 1 = [x] from rfl, readU_one] at hQ4
  have hx8 : x.toNat < 256 := x.toNat_lt
  obtain ⟨k, hk⟩ : ∃ k, x.toNat = k := ⟨_, rfl⟩
  rw [hk] at hcell hQ4 hx8
  have hwk := w64_le (e := k) (by omega)
  have hd : decide ((bl : Int) ≤ (a2 : Int)) = false := decide_eq_false (by omega)
  have ha2i : (a2 : Int) < (bl : Int) := by omega
  have ha2n : a2 < bl := by omega
  replace hQ4 := Lib.hid hQ4
  clear hQ3 hbd hx hk
  by_cases hk16 : 16 < k
  · have hQn : Q = none := by rw [← hQ4.out, if_pos hk16]
    subst hQn
    have hd2 : decide ((16 : Int) < (k : Int)) = true := decide_eq_true (by omega)
    have hzr := hz7.row #[.int .u32 0, .int .u32 0, .int .u16 0, .string ⟨#[]⟩, .string ⟨#[]⟩, .slice none 0 0]
    have hbr := below_row hb7' (g := z) hzw #[.int .u32 0, .int .u32 0, .int .u16 0, .string ⟨#[]⟩, .string ⟨#[]⟩, .slice none 0 0]
    go_wp2_with (refine store_row_gen rfl 29 (Operand.tmp 2) _ rfl z #[.int .u32 0, .int .u32 0, .int .u16 0, .string ⟨#[]⟩, .string ⟨#[]⟩, .slice none 0 0] (by simp [go_sem]) (by simp [go_sem]) 29 _ hz7 (by kernel_rfl) rfl (by simp [Value.oneCell']) (fun w9 hw9 => ?_); rw [← hw9] at hzr hbr; clear hw9)
    refine bodyPost_ret (v := .tuple #[.agg #[.int .u32 0, .int .u32 0, .int .u16 0, .string ⟨#[]⟩, .string ⟨#[]⟩, .slice none 0 0], .int .i64 0, .int .i64 20]) (by exact results_ctt rfl _ _ z 29 _ (0, 0) _ _ _ rfl rfl rfl hzr Try.underlying29 rfl (by kernel_rfl)) rfl ?_
    exact ⟨rfl, hbr⟩
  have hd2 : decide ((16 : Int) < (k : Int)) = false := decide_eq_false (by omega)
  have hQ5 := hQ4.out
  rw [if_neg hk16] at hQ5
  obtain ⟨a3, ha3⟩ : ∃ a3, a2 + 1 = a3 := ⟨_, rfl⟩
  rw [ha3] at hQ5
  have hw3 := w64_s1 ha3 (by omega)
  have ha3l : a3 ≤ bl := by omega
  replace ha3 := Lib.hid ha3
  replace hQ5 := Lib.hid hQ5
  clear hQ4
  go_wp2_with fail
  generalize w7.setCell ⟨y, 4, none⟩ (.string mm) = w8 at *
  clear hyc2 hyf2 hy7 hd hd2 hcell hca hxa hw1 hw2 hwk hw3
  have hQa : rdOpK rdV b k a3 c1 s1 n1 t1 t2 = Q := by
    rw [← hQ5.out]
    unfold rdOpK
    cases pl rdV k (b.drop a3) <;> rfl
  replace hQa := Lib.hid hQa
  clear hQ5
  go_loopw [8, 12] (fun at_ ii wr => ∃ (j : Nat) (l1 : List Val) (A : Option Addr) (c' : Nat) (xs : List Value) (css : Nat → Array Value) (at' : Nat), at_ = .int .i64 (at' : Int) ∧ ii = .int .i64 (j : Int) ∧ QRel b k a3 z y w wr c1 s1 n1 gg mm j l1 A c' xs css at') (fun _ ii _ => k - (intOf ii).toNat)
  case atStart => exact ⟨0, [], none, 0, [], _, a3, rfl, rfl, ⟨Nat.zero_le _, rfl, by rw [hbl.out]; exact ha3l, Nat.le_refl _, hz7, hy8, VRow.nil _ _, hb7', by simp⟩⟩
  case round =>
    rename_i hrel
    obtain ⟨j, l1, A, c', xs, css, at', rfl, rfl, R⟩ := hrel
    have hjn := R.jn
    have hat := R.hat
    rw [hbl.out] at hat
    have hyl : y < wr.heap.size := R.hy.lt
    by_cases hlt : j < k
    · have hat1 : (at' : Int) ≤ (bl : Int) := by omega
      have hcall := hva.out at' (by rw [hbl.out]; exact hat) wr R.hb
      rw [hbl.out] at hcall
      have hpp := R.pp
      obtain ⟨bd, hbd⟩ : ∃ bd, b.drop at' = bd := ⟨_, rfl⟩
      have hbdl : bd.length = bl - at' := by rw [← hbd, List.length_drop, hbl.out]
      rw [hbd] at hpp hcall
      obtain ⟨rr, hrr⟩ : ∃ rr, rdV bd = rr := ⟨_, rfl⟩
      rw [hrr] at hcall
      cases rr with
      | none =>
        have hQn : Q = none := by
          rw [← hQa.out]
          unfold rdOpK
          rw [hpp, pl_none (by omega) hrr]
          rfl
        subst hQn
        have hzz := R.hz
        have hbb := R.hb
        clear hbd hpp hbdl hrr R
        by_cases hcc : c = at'
        all_goals
          first | (have hbe : bl = at' := by omega); subst hbe hcc; rw [if_pos rfl, Nat.sub_self] at hcall | rw [if_neg hcc] at hcall
          go_wp2_with fail
          refine hcall.mono ?_
          clear hcall
          rintro e w9 ⟨rfl, hb9⟩
          dsimp only
          have hz9 := (hzz.below hb9 hzz.lt).alloc (.cells #[.int .i64 0, .int .i64 0, .float .f64 0, .string ⟨#[]⟩, .slice none 0 0] 43)
          have hb9' := (below_then hb9 hbb).alloc (Nat.le_trans hbb.size hb9.size) (.cells #[.int .i64 0, .int .i64 0, .float .f64 0, .string ⟨#[]⟩, .slice none 0 0] 43)
          clear hzz hbb hb9
          have hzr := hz9.row #[.int .u32 0, .int .u32 0, .int .u16 0, .string ⟨#[]⟩, .string ⟨#[]⟩, .slice none 0 0]
          have hbr := below_row hb9' (g := z) hzw #[.int .u32 0, .int .u32 0, .int .u16 0, .string ⟨#[]⟩, .string ⟨#[]⟩, .slice none 0 0]
          go_wp2_with (refine store_row_gen rfl 29 (Operand.tmp 2) _ rfl z #[.int .u32 0, .int .u32 0, .int .u16 0, .string ⟨#[]⟩, .string ⟨#[]⟩, .slice none 0 0] (by simp [go_sem]) (by simp [go_sem]) 29 _ hz9 (by kernel_rfl) rfl (by simp [Value.oneCell']) (fun w9 hw9 => ?_); rw [← hw9] at hzr hbr; clear hw9)
          refine bodyPost_ret (v := .tuple #[.agg #[.int .u32 0, .int .u32 0, .int .u16 0, .string ⟨#[]⟩, .string ⟨#[]⟩, .slice none 0 0], .int .i64 0, .int .i64 20]) (by exact results_ctt rfl _ _ z 29 _ (0, 0) _ _ _ rfl rfl rfl hzr Try.underlying29 rfl (by kernel_rfl)) rfl ?_
          exact ⟨rfl, hbr⟩
      | some vm =>
        obtain ⟨v, m⟩ := vm
        have hm : m ≤ bl - at' := by rw [← hbdl]; exact rdV_le hrr
        have hatl : at' < bl := by
          refine Nat.lt_of_not_le fun hge => ?_
          have : bd = [] := List.eq_nil_of_length_eq_zero (by omega)
          rw [this, rdV_nil] at hrr
          cases hrr
        rw [if_neg (show ¬ c = at' by omega)] at hcall
        replace hpp := Lib.hid hpp
        replace hrr := Lib.hid hrr
        replace hbd := Lib.hid hbd
        replace hbdl := Lib.hid hbdl
        go_wp2_with fail
        refine hcall.mono ?_
        clear hcall
        rintro e2 w6 ⟨cs, rfl, hv, hb6⟩
        dsimp only
        obtain ⟨k', i', f', s', A', n', c9, hform⟩ := hv.reads.form
        subst hform
        have hone := hv.one
        have hb6u := Upd.of_below_size (S := fun _ => False) hb6
        have hy6 := (R.hy.below hb6 R.hy.lt).alloc (.cells #[.int .i64 k', .int .i64 i', .float .f64 f', .string s', .slice A' n' c9] 43)
        have hz6 := (R.hz.below hb6 R.hz.lt).alloc (.cells #[.int .i64 k', .int .i64 i', .float .f64 f', .string s', .slice A' n' c9] 43)
        have hv6 := hv.upd ((Upd.refl (fun _ => False) w6).alloc (.cells #[.int .i64 k', .int .i64 i', .float .f64 f', .string s', .slice A' n' c9] 43)) (fun _ _ h => h)
        have hu6 := hb6u.alloc (.cells #[.int .i64 k', .int .i64 i', .float .f64 f', .string s', .slice A' n' c9] 43)
        have hbv := (Blk.new w6 43 #[.int .i64 k', .int .i64 i', .float .f64 f', .string s', .slice A' n' c9]).val5
        have ho6 := R.R.ho.upd hu6 (fun g _ h => h)
        rw [R.jl] at ho6
        have hb7 := (below_then hb6 R.hb).alloc (Nat.le_trans R.hb.size hb6.size) (.cells #[.int .i64 k', .int .i64 i', .float .f64 f', .string s', .slice A' n' c9] 43)
        have hw67 : (w6.alloc (.cells #[.int .i64 k', .int .i64 i', .float .f64 f', .string s', .slice A' n' c9] 43)).heap.size = w6.heap.size + 1 := by simp
        have hyc := hy6.op6
        have hsrc := Reads.lit (size := 5) (w6.alloc (.cells #[.int .i64 k', .int .i64 i', .float .f64 f', .string s', .slice A' n' c9] 43)) #[.int .i64 k', .int .i64 i', .float .f64 f', .string s', .slice A' n' c9] 43 (0, 0) 1 [.int .i64 k', .int .i64 i', .float .f64 f', .string s', .slice A' n' c9] rfl rfl
        rw [hw67] at hsrc
        have hwz6 : y < w6.heap.size := by have := hb6.size; omega
        have hws6 : wr.heap.size ≤ w6.heap.size := hb6.size
        have hbws := R.hb.size
        clear hb6 hv hb6u
        replace hw67 := Lib.hid hw67
        go_wp2_with (at_builtin; go_must (refine wpList_append_mine rfl _ _ 27 27 rfl 43 i1 _ 5 64 Try.underlying27 gi gz0 gz1 gz2 rfl rfl (ho6.alloc (.cells #[.int .i64 k', .int .i64 i', .float .f64 f', .string s', .slice A' n' c9] 43)) rfl (Src.ofReads Try.underlying27 _ hsrc (by intro u hu; exact hone u (by simpa using hu))) ?b1 ?b2 ?grow))
        case b1 => unfold maxLen; omega
        case b2 => omega
        case grow =>
          intro A8 c8 w8' ho8 hg8 hat8
          have hAz : ∀ g, bOf A = some g → y + 1 ≤ g := R.R.hA
          have R8 := R.R.push (w6 := w6.alloc (.cells #[.int .i64 k', .int .i64 i', .float .f64 f', .string s', .slice A' n' c9] 43)) (by omega) hu6 (fun _ h => h.elim) hv6 ⟨_, rfl⟩ (by rw [R.jl]; exact ho8) hg8 (by rw [World.size_alloc]; rw [hw67.out]; exact hat8)
          have hy8' := (hy6.alloc (.cells #[.int .i64 k', .int .i64 i', .float .f64 f', .string s', .slice A' n' c9] 43)).grown hg8 (fun e => by have := hAz _ e.symm; omega)
          have hz8 := (hz6.alloc (.cells #[.int .i64 k', .int .i64 i', .float .f64 f', .string s', .slice A' n' c9] 43)).grown hg8 (fun e => by have := hAz _ e.symm; omega)
          have hb8 := (hb7.alloc hb7.size (.cells #[.int .i64 k', .int .i64 i', .float .f64 f', .string s', .slice A' n' c9] 43)).grown hg8 (by rw [World.size_alloc, World.size_alloc]; omega) (fun k e => by have := hAz k e; omega)
          have hy9 := hy8'.set_ 5 (.slice A8 (j + 1) c8)
          have hz9 := hz8.far (p := ⟨y, 5, none⟩) (show z ≠ y by omega) (.slice A8 (j + 1) c8)
          have hb9 := hb8.setCell (p := ⟨y, 5, none⟩) (show w.heap.size ≤ y by omega) (.slice A8 (j + 1) c8)
          have R9 := R8.upd ((Upd.refl (fun x => x = y) w8').setCell (p := ⟨y, 5, none⟩) (fun _ => rfl) (.slice A8 (j + 1) c8)) (fun g hg e => by omega)
          have y84 := hy8'.cell 5
          have yf8 := hy8'.frozen 5
          have hnew : QRel b k a3 z y w (w8'.setCell ⟨y, 5, none⟩ (.slice A8 (j + 1) c8)) c1 s1 n1 gg mm (j + 1) (l1 ++ [v]) A8 c8 (xs ++ (#[.int .i64 k', .int .i64 i', .float .f64 f', .string s', .slice A' n' c9] : Array Value).toList) (fun k => if k = l1.length then #[.int .i64 k', .int .i64 i', .float .f64 f', .string s', .slice A' n' c9] else css k) (at' + m) := by
            refine ⟨by omega, by simp [R.jl], by rw [hbl.out]; omega, by have := R.hl; omega, hz9, hy9, R9, hb9, ?_⟩
            have hl2 := R.hl
            rw [hpp.out, pl_some (by omega) hrr.out, ← hbd.out, List.drop_drop]
            rw [show k - j - 1 = k - (j + 1) from by omega]
            cases pl rdV (k - (j + 1)) (b.drop (at' + m)) with
            | none => rfl
            | some x =>
              simp only [Option.map_some, List.append_assoc, List.singleton_append]
              rw [show at' - a3 + (m + x.2) = at' + m - a3 + x.2 from by omega]
          clear hy9 hz9 hb9 R9 hy8' hz8 hb8 R8 hsrc ho8 hg8 hat8 hv6 hu6 hz6 hy6 hyc hbv ho6 hone R hb7
          replace hnew := Lib.hid hnew
          have hwm := w64_sum (a := at') (n := m) rfl (by omega)
          go_wp2_with fail
          go_roundw
          case rel => exact ⟨u3, u4, _, _, ⟨j + 1, l1 ++ [v], A8, c8, _, _, at' + m, rfl, rfl, hnew.out⟩, rfl, rfl, by simp, by simp⟩
          case measure => simp [intOf]; omega
    · have hjn' : j = k := by omega
      subst hjn'
      have hyc := R.hy.op6
      have hjl := R.jl
      have hz7 := R.hz.row #[.int .u32 (c1 : Int), .int .u32 (s1 : Int), .int .u16 (n1 : Int), .string gg, .string mm, .slice A j c']
      have hb8 := below_row R.hb (g := z) hzw #[.int .u32 (c1 : Int), .int .u32 (s1 : Int), .int .u16 (n1 : Int), .string gg, .string mm, .slice A j c']
      have hzz := R.hz
      have hown := (R.R.upd ((Upd.refl (fun x => x = z) wr).setRow (g := z) (fun _ => rfl) #[.int .u32 (c1 : Int), .int .u32 (s1 : Int), .int .u16 (n1 : Int), .string gg, .string mm, .slice A j c']) (fun g hg e => by omega)).down (show w.heap.size ≤ y + 1 by omega)
      have hQs : Q = some (⟨c1, s1, n1, t1, t2, l1⟩, at') := by
        have hl2 := R.hl
        rw [← hQa.out]
        unfold rdOpK
        rw [R.pp, Nat.sub_self]
        simp only [pl, Option.map_some, List.append_nil, Nat.add_zero]
        rw [show a3 + (at' - a3) = at' from by omega]
      clear R hva
      go_wp2_with (refine store_row_gen rfl 29 (Operand.tmp 2) _ rfl z #[.int .u32 (c1 : Int), .int .u32 (s1 : Int), .int .u16 (n1 : Int), .string gg, .string mm, .slice A j c'] (by simp [go_sem]) (by simp [go_sem]) 29 _ hzz (by kernel_rfl) rfl (by simp [Value.oneCell']) (fun w9 hw9 => ?_); rw [← hw9] at hz7 hb8 hown; clear hw9)
      refine bodyPost_ret (v := .tuple #[.agg #[.int .u32 (c1 : Int), .int .u32 (s1 : Int), .int .u16 (n1 : Int), .string gg, .string mm, .slice A j c'], .int .i64 (at' : Int), .int .i64 0]) (by exact results_ctt rfl _ _ z 29 _ (0, 0) _ _ _ rfl rfl rfl hz7 Try.underlying29 rfl (by kernel_rfl)) rfl ?_
      rw [hQs]
      refine ⟨A, c', xs, css, ?_, hown, hb8⟩
      dsimp only
      rw [hgg.out, hmm.out, hjl]
end Go.Proofs.Ytblakaddanoilaa
