/- choirref3.ReadReply at any bytes. -/
import Derived.Test.YtblakaddanoilaaIdRef
namespace Go.Proofs.Ytblakaddanoilaa
open Go.RowKit
set_option maxRecDepth 100000

theorem Blk.val5 {w : World} {g : Nat} {t : TypeId} {a b c d e : Value} (h : Blk w g t #[a, b, c, d, e]) : w.cell? ⟨g, 0, none⟩ = some a ∧ w.cell? ⟨g, 1, none⟩ = some b ∧ w.cell? ⟨g, 2, none⟩ = some c ∧ w.cell? ⟨g, 3, none⟩ = some d ∧ w.cell? ⟨g, 4, none⟩ = some e := ⟨h.cell 0, h.cell 1, h.cell 2, h.cell 3, h.cell 4⟩

theorem w64_16 {e : Nat} (h : e < 65536) : IntKind.i64.wrap (e : Int) = (e : Int) := w64_id _ (by omega) (by omega)
theorem w64_12 {m : Nat} (h : m ≤ 1000000000) : IntKind.i64.wrap (12 + (m : Int)) = 12 + (m : Int) := w64_id _ (by omega) (by omega)

set_option maxHeartbeats 3200000 in
theorem ref_read_reply {A : Option Addr} {c : Nat} {b : List UInt8} {w : World} (h : Reads w w.heap.size 1 A b.length (bys b)) (hc : b.length ≤ c) (hl : b.length ≤ 1000000000) (Q : Option ((Nat × Nat × Nat × Nat) × Val × Nat)) (hQ : rdRep b = Q) :
    Calls Try.prog 15 #[.slice A b.length c] w (RepRd w Q) := by
  have hsf := fun a k x m w => run_store_float (P := Try.prog) a k x m w
  have hz := Blk.new w 45 #[.int .u32 0, .int .u32 0, .int .u16 0, .int .i64 0, .int .i64 0, .int .i64 0, .float .f64 0, .string ⟨#[]⟩, .slice none 0 0]
  have hb2 := (Below.refl w.heap.size w).alloc (Nat.le_refl _) (.cells #[.int .u32 0, .int .u32 0, .int .u16 0, .int .i64 0, .int .i64 0, .int .i64 0, .float .f64 0, .string ⟨#[]⟩, .slice none 0 0] 45)
  unfold rdRep at hQ
  by_cases h10 : b.length < 10
  · rw [if_pos h10] at hQ
    subst hQ
    obtain ⟨bl, hbl⟩ : ∃ bl, b.length = bl := ⟨_, rfl⟩
    rw [hbl] at h10 ⊢
    clear h hc hl hbl
    go_enter Try.func15, Try.ntmps15
    go_wp2_with fail
    generalize w.alloc (.cells #[.int .u32 0, .int .u32 0, .int .u16 0, .int .i64 0, .int .i64 0, .int .i64 0, .float .f64 0, .string ⟨#[]⟩, .slice none 0 0] 45) = w2 at *
    obtain ⟨z, hzz⟩ : ∃ z, w.heap.size = z := ⟨_, rfl⟩
    rw [hzz] at hz ⊢
    have hzw : w.heap.size ≤ z := by omega
    have hzw2 : z ≤ w.heap.size := by omega
    replace hzz := Lib.hid hzz
    refine (ref_id_no h10).mono ?_
    rintro e w3 ⟨rfl, hb3⟩
    dsimp only
    have hz3 := (hz.below hb3 hz.lt).alloc (.cells #[.int .u32 0, .int .u32 0, .int .u16 0] 26)
    have hb3' := (below_then hb3 hb2).alloc (Nat.le_trans hb2.size hb3.size) (.cells #[.int .u32 0, .int .u32 0, .int .u16 0] 26)
    clear hz hb2 hb3
    have hzr := hz3.row #[.int .u32 0, .int .u32 0, .int .u16 0, .int .i64 0, .int .i64 0, .int .i64 0, .float .f64 0, .string ⟨#[]⟩, .slice none 0 0]
    have hbr := below_row hb3' (g := z) hzw #[.int .u32 0, .int .u32 0, .int .u16 0, .int .i64 0, .int .i64 0, .int .i64 0, .float .f64 0, .string ⟨#[]⟩, .slice none 0 0]
    go_wp2_with (refine store_row_gen rfl 45 (Operand.tmp 2) _ rfl z #[.int .u32 0, .int .u32 0, .int .u16 0, .int .i64 0, .int .i64 0, .int .i64 0, .float .f64 0, .string ⟨#[]⟩, .slice none 0 0] (by simp [go_sem]) (by simp [go_sem]) 45 _ hz3 (by kernel_rfl) rfl (by simp [Value.oneCell']) (fun w9 hw9 => ?_); rw [← hw9] at hzr hbr; clear hw9)
    refine bodyPost_ret (v := .tuple #[.agg #[.int .u32 0, .int .u32 0, .int .u16 0, .int .i64 0, .int .i64 0, .int .i64 0, .float .f64 0, .string ⟨#[]⟩, .slice none 0 0], .int .i64 0, .int .i64 20]) (by exact results_ctt rfl _ _ z 45 _ (0, 0) _ _ _ rfl rfl rfl hzr Try.underlying45 rfl (by kernel_rfl)) rfl ?_
    exact ⟨rfl, hbr⟩
  rw [if_neg h10] at hQ
  obtain ⟨c1, hc1⟩ : ∃ c1, readU (b.take 4) = c1 := ⟨_, rfl⟩
  obtain ⟨s1, hs1⟩ : ∃ s1, readU ((b.drop 4).take 4) = s1 := ⟨_, rfl⟩
  obtain ⟨n1, hn1⟩ : ∃ n1, readU ((b.drop 8).take 2) = n1 := ⟨_, rfl⟩
  obtain ⟨e1, he1⟩ : ∃ e1, readU ((b.drop 10).take 2) = e1 := ⟨_, rfl⟩
  rw [hc1, hs1, hn1, he1] at hQ
  have hid := fun (W : World) (hb : Below w.heap.size w W) => ref_id_ok ((h.below hb).more hb.size) hc hl (by omega) c1 s1 n1 hc1 hs1 hn1
  by_cases h12 : b.length < 12
  · rw [if_pos h12] at hQ
    subst hQ
    obtain ⟨bl, hbl⟩ : ∃ bl, b.length = bl := ⟨_, rfl⟩
    rw [hbl] at h12 h10 hid ⊢
    replace hid := Lib.hid hid
    clear h hc hl hbl hc1 hs1 hn1 he1
    go_enter Try.func15, Try.ntmps15
    go_wp2_with fail
    generalize w.alloc (.cells #[.int .u32 0, .int .u32 0, .int .u16 0, .int .i64 0, .int .i64 0, .int .i64 0, .float .f64 0, .string ⟨#[]⟩, .slice none 0 0] 45) = w2 at *
    obtain ⟨z, hzz⟩ : ∃ z, w.heap.size = z := ⟨_, rfl⟩
    rw [hzz] at hz ⊢
    have hzw : w.heap.size ≤ z := by omega
    have hzw2 : z ≤ w.heap.size := by omega
    replace hzz := Lib.hid hzz
    refine (hid.out w2 hb2).mono ?_
    rintro e w3 ⟨rfl, hb3⟩
    dsimp only
    have hz3 := (hz.below hb3 hz.lt).alloc (.cells #[.int .u32 (c1 : Int), .int .u32 (s1 : Int), .int .u16 (n1 : Int)] 26)
    have hb3' := (below_then hb3 hb2).alloc (Nat.le_trans hb2.size hb3.size) (.cells #[.int .u32 (c1 : Int), .int .u32 (s1 : Int), .int .u16 (n1 : Int)] 26)
    clear hz hb2 hb3
    have hzr := hz3.row #[.int .u32 0, .int .u32 0, .int .u16 0, .int .i64 0, .int .i64 0, .int .i64 0, .float .f64 0, .string ⟨#[]⟩, .slice none 0 0]
    have hbr := below_row hb3' (g := z) hzw #[.int .u32 0, .int .u32 0, .int .u16 0, .int .i64 0, .int .i64 0, .int .i64 0, .float .f64 0, .string ⟨#[]⟩, .slice none 0 0]
    go_wp2_with (refine store_row_gen rfl 45 (Operand.tmp 2) _ rfl z #[.int .u32 0, .int .u32 0, .int .u16 0, .int .i64 0, .int .i64 0, .int .i64 0, .float .f64 0, .string ⟨#[]⟩, .slice none 0 0] (by simp [go_sem]) (by simp [go_sem]) 45 _ hz3 (by kernel_rfl) rfl (by simp [Value.oneCell']) (fun w9 hw9 => ?_); rw [← hw9] at hzr hbr; clear hw9)
    refine bodyPost_ret (v := .tuple #[.agg #[.int .u32 0, .int .u32 0, .int .u16 0, .int .i64 0, .int .i64 0, .int .i64 0, .float .f64 0, .string ⟨#[]⟩, .slice none 0 0], .int .i64 0, .int .i64 20]) (by exact results_ctt rfl _ _ z 45 _ (0, 0) _ _ _ rfl rfl rfl hzr Try.underlying45 rfl (by kernel_rfl)) rfl ?_
    exact ⟨rfl, hbr⟩
  rw [if_neg h12] at hQ
  have he16 : e1 < 65536 := by rw [← he1]; exact readU_2 _
  have hwe : wrap64 (e1 : Int) = (e1 : Int) := by unfold wrap64; omega
  have hwe2 := w64_16 he16
  have hnr := fun (W : World) (hb : Below w.heap.size w W) => ref_read (c := c - 10) (k := 2) (bs := b.drop 10) (by
    have hcut := ((h.below hb).more hb.size).cut (k := 10) (cap := c) (by omega) hc
    rw [if_neg (by omega), Nat.mul_one, bys_drop, ← List.length_drop] at hcut
    exact hcut) (by omega) (by rw [List.length_drop]; omega) (by rw [List.length_drop]; omega)
  have hvr := fun (W : World) (hb : Below w.heap.size w W) => ref_read_v (c := c - 12) (b := b.drop 12) (A := if c = 12 then A else A.map (·.add 12)) (by
    have hcut := ((h.below hb).more hb.size).cut (k := 12) (cap := c) (by omega) hc
    rw [Nat.mul_one, bys_drop, ← List.length_drop] at hcut
    exact hcut) (by rw [List.length_drop]; omega) (by rw [List.length_drop]; omega)
  rw [he1] at hnr
  rw [List.length_drop] at hnr hvr
  have hvm : ∀ v m, rdV (b.drop 12) = some (v, m) → m ≤ b.length - 12 := fun v m hvm => by have := rdV_le hvm; rw [List.length_drop] at this; exact this
  obtain ⟨ad, rfl, -, -⟩ := h.2 (by omega)
  obtain ⟨q, hq⟩ : ∃ q, rdV (b.drop 12) = q := ⟨_, rfl⟩
  rw [hq] at hvr hQ hvm
  obtain ⟨bl, hbl⟩ : ∃ bl, b.length = bl := ⟨_, rfl⟩
  rw [hbl] at h12 h10 hid hnr hvr hc hl hvm ⊢
  replace hid := Lib.hid hid
  replace hnr := Lib.hid hnr
  replace hvr := Lib.hid hvr
  replace hvm := Lib.hid hvm
  replace hQ := Lib.hid hQ
  clear h hbl hc1 hs1 hn1 he1 hq
  go_enter Try.func15, Try.ntmps15
  go_wp2_with fail
  generalize w.alloc (.cells #[.int .u32 0, .int .u32 0, .int .u16 0, .int .i64 0, .int .i64 0, .int .i64 0, .float .f64 0, .string ⟨#[]⟩, .slice none 0 0] 45) = w2 at *
  obtain ⟨z, hzz⟩ : ∃ z, w.heap.size = z := ⟨_, rfl⟩
  rw [hzz] at hz ⊢
  have hzw : w.heap.size ≤ z := by omega
  have hzw2 : z ≤ w.heap.size := by omega
  replace hzz := Lib.hid hzz
  refine (hid.out w2 hb2).mono ?_
  rintro e w3 ⟨rfl, hb3⟩
  dsimp only
  have hz3 := (hz.below hb3 hz.lt).alloc (.cells #[.int .u32 (c1 : Int), .int .u32 (s1 : Int), .int .u16 (n1 : Int)] 26)
  have hi3 := Blk.new w3 26 #[.int .u32 (c1 : Int), .int .u32 (s1 : Int), .int .u16 (n1 : Int)]
  have hb3' := (below_then hb3 hb2).alloc (Nat.le_trans hb2.size hb3.size) (.cells #[.int .u32 (c1 : Int), .int .u32 (s1 : Int), .int .u16 (n1 : Int)] 26)
  have hs3 : z < w3.heap.size := Nat.lt_of_lt_of_le hz.lt hb3.size
  clear hz hb2 hb3 hid
  have h12d : decide ((bl : Int) < 12) = false := decide_eq_false (by omega)
  have h10i : (10 : Int) ≤ (bl : Int) := by omega
  have h12i : (12 : Int) ≤ (bl : Int) := by omega
  go_wp2_with fail
  generalize w3.alloc (.cells #[.int .u32 (c1 : Int), .int .u32 (s1 : Int), .int .u16 (n1 : Int)] 26) = w4 at *
  obtain ⟨y, hy⟩ : ∃ y, w3.heap.size = y := ⟨_, rfl⟩
  rw [hy] at hi3 hs3 ⊢
  replace hy := Lib.hid hy
  refine (hnr.out w4 hb3').mono ?_
  rintro e w5 ⟨rfl, hb5⟩
  dsimp only
  have hz5 := hz3.below hb5 hz3.lt
  have hi5 := hi3.below hb5 hi3.lt
  have hb5' := below_then hb5 hb3'
  clear hz3 hi3 hb3' hb5 hnr
  have hv5 := hvr.out w5 hb5'
  clear hvr
  by_cases hcc : c = 12
  all_goals
    first | (have hbe : bl = 12 := by omega); subst hbe hcc; rw [if_pos rfl, Nat.sub_self] at hv5 | rw [if_neg hcc, Option.map_some] at hv5
    go_wp2_with fail
    refine hv5.mono ?_
    clear hv5
    rcases q with _ | ⟨v, m⟩
    · replace hQ := hQ.out
      subst hQ
      rintro e w6 ⟨rfl, hb6⟩
      dsimp only
      have hz6 := (hz5.below hb6 hz5.lt).alloc (.cells #[.int .i64 0, .int .i64 0, .float .f64 0, .string ⟨#[]⟩, .slice none 0 0] 43)
      have hb6' := (below_then hb6 hb5').alloc (Nat.le_trans hb5'.size hb6.size) (.cells #[.int .i64 0, .int .i64 0, .float .f64 0, .string ⟨#[]⟩, .slice none 0 0] 43)
      clear hz5 hi5 hb5' hb6
      have hzr := hz6.row #[.int .u32 0, .int .u32 0, .int .u16 0, .int .i64 0, .int .i64 0, .int .i64 0, .float .f64 0, .string ⟨#[]⟩, .slice none 0 0]
      have hbr := below_row hb6' (g := z) hzw #[.int .u32 0, .int .u32 0, .int .u16 0, .int .i64 0, .int .i64 0, .int .i64 0, .float .f64 0, .string ⟨#[]⟩, .slice none 0 0]
      go_wp2_with (refine store_row_gen rfl 45 (Operand.tmp 2) _ rfl z #[.int .u32 0, .int .u32 0, .int .u16 0, .int .i64 0, .int .i64 0, .int .i64 0, .float .f64 0, .string ⟨#[]⟩, .slice none 0 0] (by simp [go_sem]) (by simp [go_sem]) 45 _ hz6 (by kernel_rfl) rfl (by simp [Value.oneCell']) (fun w9 hw9 => ?_); rw [← hw9] at hzr hbr; clear hw9)
      refine bodyPost_ret (v := .tuple #[.agg #[.int .u32 0, .int .u32 0, .int .u16 0, .int .i64 0, .int .i64 0, .int .i64 0, .float .f64 0, .string ⟨#[]⟩, .slice none 0 0], .int .i64 0, .int .i64 20]) (by exact results_ctt rfl _ _ z 45 _ (0, 0) _ _ _ rfl rfl rfl hzr Try.underlying45 rfl (by kernel_rfl)) rfl ?_
      exact ⟨rfl, hbr⟩
    · replace hQ := hQ.out
      subst hQ
      rintro e w6 ⟨cs, rfl, hv, hb6⟩
      dsimp only
      obtain ⟨k, i, f, s, A', n', c', hform⟩ := hv.reads.form
      subst hform
      have hm := hvm.out v m rfl
      have hz6 := (hz5.below hb6 hz5.lt).alloc (.cells #[.int .i64 k, .int .i64 i, .float .f64 f, .string s, .slice A' n' c'] 43)
      have hi6 := ((hi5.below hb6 hi5.lt).alloc (.cells #[.int .i64 k, .int .i64 i, .float .f64 f, .string s, .slice A' n' c'] 43)).id3
      have hv6 := (Blk.new w6 43 #[.int .i64 k, .int .i64 i, .float .f64 f, .string s, .slice A' n' c']).val5
      have hb6' := (below_then hb6 hb5').alloc (Nat.le_trans hb5'.size hb6.size) (.cells #[.int .i64 k, .int .i64 i, .float .f64 f, .string s, .slice A' n' c'] 43)
      have hu6 := hv.upd ((Upd.refl (fun _ => False) w6).alloc (.cells #[.int .i64 k, .int .i64 i, .float .f64 f, .string s, .slice A' n' c'] 43)) (fun _ _ h => h)
      have hs5 : w.heap.size ≤ w5.heap.size := hb5'.size
      have hzl := hz5.lt
      clear hz5 hi5 hb5' hb6 hv hvm
      have hzr := hz6.row #[.int .u32 (c1 : Int), .int .u32 (s1 : Int), .int .u16 (n1 : Int), .int .i64 (e1 : Int), .int .i64 k, .int .i64 i, .float .f64 f, .string s, .slice A' n' c']
      have hbr := below_row hb6' (g := z) hzw #[.int .u32 (c1 : Int), .int .u32 (s1 : Int), .int .u16 (n1 : Int), .int .i64 (e1 : Int), .int .i64 k, .int .i64 i, .float .f64 f, .string s, .slice A' n' c']
      have hvr := hu6.upd ((Upd.refl (fun x => x = z) _).setRow (g := z) (fun _ => rfl) #[.int .u32 (c1 : Int), .int .u32 (s1 : Int), .int .u16 (n1 : Int), .int .i64 (e1 : Int), .int .i64 k, .int .i64 i, .float .f64 f, .string s, .slice A' n' c']) (fun g (hg : w5.heap.size ≤ g) e => by omega)
      have hwm := w64_12 (m := m) (by omega)
      go_wp2_with (refine store_row_gen rfl 45 (Operand.tmp 2) _ rfl z #[.int .u32 (c1 : Int), .int .u32 (s1 : Int), .int .u16 (n1 : Int), .int .i64 (e1 : Int), .int .i64 k, .int .i64 i, .float .f64 f, .string s, .slice A' n' c'] (by simp [go_sem]) (by simp [go_sem]) 45 _ hz6 (by kernel_rfl) rfl (by simp [Value.oneCell']) (fun w9 hw9 => ?_); rw [← hw9] at hzr hbr hvr; clear hw9)
      refine bodyPost_ret (v := .tuple #[.agg #[.int .u32 (c1 : Int), .int .u32 (s1 : Int), .int .u16 (n1 : Int), .int .i64 (e1 : Int), .int .i64 k, .int .i64 i, .float .f64 f, .string s, .slice A' n' c'], .int .i64 ((12 + m : Nat) : Int), .int .i64 0]) (by exact results_ctt rfl _ _ z 45 _ (0, 0) _ _ _ rfl rfl rfl hzr Try.underlying45 rfl (by kernel_rfl)) rfl ?_
      exact ⟨k, i, f, s, A', n', c', rfl, hvr.mono (fun g _ (hg : w5.heap.size ≤ g) => by show w.heap.size ≤ g; omega), hbr⟩
end Go.Proofs.Ytblakaddanoilaa
