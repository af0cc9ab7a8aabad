/- FrameReads' walk. -/
import Derived.Test.YtphbiglkkibnfaaTurned
namespace Go.Proofs.Ytphbiglkkibnfaa
open Go.RowKit

theorem byte_xor (b : UInt8) (x : Int) (h0 : 0 ≤ x) (h1 : x ≤ 255) : ∃ b' : UInt8, bits .xor .u8 (b.toNat : Int) x = (b'.toNat : Int) := by
  obtain ⟨n, rfl⟩ : ∃ n : Nat, x = (n : Int) := ⟨x.toNat, by omega⟩
  have hbl := b.toNat_lt
  rw [u8_xor_nat _ _ hbl (by omega)]
  have hx : b.toNat ^^^ n < 2 ^ 8 := Nat.xor_lt_two_pow (by omega) (by omega)
  exact ⟨UInt8.ofNat (b.toNat ^^^ n), by rw [UInt8.toNat_ofNat', Nat.mod_eq_of_lt hx]⟩

theorem two_rows {w4 : World} {q : Nat} (hq : w4.heap.size = q) (A B : Option Addr) (c d : Nat) (a b : List UInt8) (ha : Reads w4 q 1 A a.length (bys a)) (hb : Reads w4 q 1 B b.length (bys b)) (hca : a.length ≤ c) (hcb : b.length ≤ d) (hla : a.length ≤ 1000) (hlb : b.length ≤ 1000) (k : Nat) (hk : k < 2) :
    ∃ A' y c', (w4.alloc (.cells #[.slice A a.length c, .slice B b.length d] 22)).cell? ⟨q, k, none⟩ = some (.slice A' y.length c') ∧ Reads (w4.alloc (.cells #[.slice A a.length c, .slice B b.length d] 22)) q 1 A' y.length (bys y) ∧ y.length ≤ c' ∧ y.length ≤ 1000 := by
  subst hq
  have hn := (Blk.new w4 22 #[.slice A a.length c, .slice B b.length d]).cell k
  rcases (show k = 0 ∨ k = 1 by omega) with rfl | rfl
  · exact ⟨A, a, c, hn, ha.alloc (Nat.le_refl _) _, hca, hla⟩
  · exact ⟨B, b, d, hn, hb.alloc (Nat.le_refl _) _, hcb, hlb⟩

set_option maxHeartbeats 800000 in
theorem frameReads_walk (A B : Option Addr) (c cb : Nat) (a p : List UInt8) (at_ x : Int) (cut : Bool) (w : World) (ha0 : 0 ≤ at_) (ha1 : at_ ≤ 65535) (hb0 : 0 ≤ x) (hb1 : x ≤ 255) (ha : Reads w w.heap.size 1 A a.length (bys a)) (h : Reads w w.heap.size 1 B p.length (bys p))
    (hca : a.length ≤ c) (hla : a.length ≤ 140737488351232) (hl : p.length ≤ 140737488351232) :
    Calls Try.prog 4 #[.slice A a.length c, .slice B p.length cb, .int .u16 at_, .int .u8 x, .bool cut] w (SaysTrue w) := by
  go_enter Try.func4, Try.ntmps4
  go_wp2_with fail
  refine (known_true w).mono ?_
  rintro e w1 ⟨rfl, hb1'⟩
  by_cases h1 : 300 < a.length
  · go_wp2_with fail
    go_ret
    exact ⟨rfl, hb1'⟩
  by_cases h2 : 300 < p.length
  · go_wp2_with fail
    go_ret
    exact ⟨rfl, hb1'⟩
  have hr1 := (h.below hb1').more hb1'.size
  have har1 := (ha.below hb1').more hb1'.size
  go_wp2_with fail
  obtain ⟨r, hr⟩ : ∃ r, framed p = r := ⟨_, rfl⟩
  have hrl : r.length = 8 + p.length := by rw [← hr, framed_len]
  have hr0 : [] ++ framed p = r := hr
  replace hr := Lib.hid hr
  refine (wrap_ref (bs := []) (row := none) (Grows.own Own.none_) hr1 (Nat.le_refl _) (by simp) (by simp) (by omega) hr0).mono ?_
  rintro e w2 ⟨A2, c2, rfl, ho2, hu2, hg2⟩
  dsimp only
  have hb2' : Below w1.heap.size w1 w2 := hu2.below (Nat.le_refl _) (fun k _ h => by simp at h)
  have hb2 := below_then hb2' hb1'
  have har2 := (har1.below hb2').more hb2'.size
  have hrb : r.length ≤ 308 := by omega
  have hr8 : 8 ≤ r.length := by omega
  have hcle := ho2.le_cap
  clear hrl hr0
  obtain ⟨g, cur, rfl, hblk, hcur, hset⟩ := ho2.open_ (by omega)
  have hgw := hg2 g rfl
  replace hgw : w1.heap.size ≤ g := by rcases hgw with h | h; (cases h); exact h
  obtain ⟨i, hi', hii⟩ : ∃ i : Nat, at_ % (r.length : Int) = (i : Int) ∧ i < r.length := by
    have h1 := Int.emod_nonneg at_ (show (r.length : Int) ≠ 0 by omega)
    have h2 := Int.emod_lt_of_pos at_ (show (0 : Int) < (r.length : Int) by omega)
    exact ⟨(at_ % (r.length : Int)).toNat, by omega, by omega⟩
  have hcell := hblk.cell i
  rw [hcur i hii] at hcell
  simp only [bys, byv, List.getElem?_map, List.getElem?_eq_getElem hii, Option.map_some] at hcell
  have hfz := hblk.frozen i
  obtain ⟨b', hbv⟩ := byte_xor r[i] x (by omega) (by omega)
  have ho4 := hset i (byv b') hii
  rw [bys_set] at ho4
  have hdl : (r.set i b').length = r.length := by simp
  obtain ⟨d, hd⟩ : ∃ d, r.set i b' = d := ⟨_, rfl⟩
  rw [hd] at ho4 hdl
  have hb4 : Below w.heap.size w (w2.setCell ⟨g, i, none⟩ (byv b')) := hb2.setCell (by show w.heap.size ≤ g; have := hb1'.size; omega) _
  have hr4 := ho4.reads_
  rw [← hdl] at hr4
  obtain ⟨q, hq⟩ : ∃ q, w2.heap.size = q := ⟨_, rfl⟩
  have hq4 : (w2.setCell ⟨g, i, none⟩ (byv b')).heap.size = q := by simp [hq]
  have har4 : Reads (w2.setCell ⟨g, i, none⟩ (byv b')) q 1 A a.length (bys a) := ((har1.below hb2').setCell (p := ⟨g, i, none⟩) hgw (byv b')).more (by have := hb2'.size; omega)
  replace hdl := Lib.hid hdl
  have hqh := Lib.hid hq
  clear hset hcur hblk
  rw [show (w2.setCell ⟨g, i, none⟩ (byv b')).heap.size = w2.heap.size from by simp, hq] at hr4
  have hfin : ∀ (w5 w6 : World), Below w.heap.size w w5 → Below w5.heap.size w5 w6 → Below w.heap.size w w6 := fun w5 w6 h1 h2 => below_then h2 h1
  cases cut
  · have f := two_rows hq4 A (some ⟨g, 0, none⟩) c c2 a d har4 hr4 hca (by rw [hdl.out]; exact hcle) (by omega) (by rw [hdl.out]; omega)
    rw [hdl.out] at f
    have hb5 := hb4.alloc hb4.size (.cells #[.slice A a.length c, .slice (some ⟨g, 0, none⟩) r.length c2] 22)
    have hs5 : ((w2.setCell ⟨g, i, none⟩ (byv b')).alloc (.cells #[.slice A a.length c, .slice (some ⟨g, 0, none⟩) r.length c2] 22)).heap.size = q + 1 := by simp [hq]
    clear hd hq hq4 ho4 hr4 har4 hb4
    go_wp2_with fail
    rw [hqh.out]
    change Code.wp _ _ _ _ ((w2.setCell ⟨g, i, none⟩ (byv b')).alloc (.cells #[.slice A a.length c, .slice (some ⟨g, 0, none⟩) r.length c2] 22))
    generalize (w2.setCell ⟨g, i, none⟩ (byv b')).alloc (.cells #[.slice A a.length c, .slice (some ⟨g, 0, none⟩) r.length c2] 22) = w5 at f hb5 hs5 ⊢
    clear hcell hfz
    go_loopw [57] (fun i wr => ∃ k : Nat, k ≤ 2 ∧ i = .int .i64 k ∧ Below w5.heap.size w5 wr) (fun i _ => 2 - (intOf i).toNat)
    case atStart => exact ⟨0, by omega, rfl, Below.refl _ _⟩
    case round =>
      rename_i hrel
      obtain ⟨k, hk2, rfl, hbr⟩ := hrel
      by_cases hk : k < 2
      · obtain ⟨A6, y, c6, hc6, hr6, hl6, hm6⟩ := f k hk
        have hc6' := (hbr.cell (p := ⟨q, k, none⟩) (by show q < _; omega)).trans hc6
        have hr6' : Reads wr wr.heap.size 1 A6 y.length (bys y) := (hr6.below (hbr.mono (by omega))).more (by have := hbr.size; omega)
        clear hc6 hr6
        go_wp2_with fail
        obtain ⟨o, ho⟩ : ∃ o, opened y = o := ⟨_, rfl⟩
        have hoo := open_walk hr6' hl6 (by omega)
        rw [ho] at hoo
        refine hoo.mono ?_
        clear hoo
        rintro e w7 ⟨A7, c7, rfl, ho7, hb7, hg7⟩
        dsimp only
        have hb7' := below_then hb7 hbr
        have hr7 := (hr6'.below hb7).more hb7.size
        go_wp2_with fail
        have hoo := open_ref hr7 hl6 (by omega)
        rw [ho] at hoo
        refine hoo.mono ?_
        clear hoo
        rintro e w8 ⟨A8, c8, rfl, ho8, hb8, hg8⟩
        dsimp only
        have hb8' := below_then hb8 hb7'
        have k1 := conv_bytes (c := c7) (ho7.below hb8 (Nat.le_refl _)).reads_
        have k2 := conv_bytes (c := c8) ho8.reads_
        replace ho := Lib.hid ho
        go_wp2_with fail
        go_roundw
        case rel => exact ⟨k + 1, by omega, by simp, by assumption⟩
        case measure => simp [intOf]; omega
      · have hk' : k = 2 := by omega
        subst hk'
        go_wp2_with fail
        go_ret
        exact ⟨rfl, hfin _ _ hb5 (by assumption)⟩
  · obtain ⟨z, hz⟩ : ∃ z, d.take i = z := ⟨_, rfl⟩
    have hzl : z.length = i := by rw [← hz, List.length_take, hdl.out]; omega
    have hr4' : Reads (w2.setCell ⟨g, i, none⟩ (byv b')) q 1 (some ⟨g, 0, none⟩) z.length (bys z) := by
      have := hr4.first (k := i) (by rw [hdl.out]; omega)
      rw [Nat.mul_one, bys_take, hz] at this
      rw [hzl]
      exact this
    have f := two_rows hq4 A (some ⟨g, 0, none⟩) c c2 a z har4 hr4' hca (by rw [hzl]; omega) (by omega) (by rw [hzl]; omega)
    rw [hzl] at f
    have hb5 := hb4.alloc hb4.size (.cells #[.slice A a.length c, .slice (some ⟨g, 0, none⟩) i c2] 22)
    have hs5 : ((w2.setCell ⟨g, i, none⟩ (byv b')).alloc (.cells #[.slice A a.length c, .slice (some ⟨g, 0, none⟩) i c2] 22)).heap.size = q + 1 := by simp [hq]
    clear hd hq hq4 ho4 hr4 har4 hb4 hz hzl hr4'
    go_wp2_with fail
    rw [hqh.out]
    change Code.wp _ _ _ _ ((w2.setCell ⟨g, i, none⟩ (byv b')).alloc (.cells #[.slice A a.length c, .slice (some ⟨g, 0, none⟩) i c2] 22))
    generalize (w2.setCell ⟨g, i, none⟩ (byv b')).alloc (.cells #[.slice A a.length c, .slice (some ⟨g, 0, none⟩) i c2] 22) = w5 at f hb5 hs5 ⊢
    clear hcell hfz
    go_loopw [57] (fun i wr => ∃ k : Nat, k ≤ 2 ∧ i = .int .i64 k ∧ Below w5.heap.size w5 wr) (fun i _ => 2 - (intOf i).toNat)
    case atStart => exact ⟨0, by omega, rfl, Below.refl _ _⟩
    case round =>
      rename_i hrel
      obtain ⟨k, hk2, rfl, hbr⟩ := hrel
      by_cases hk : k < 2
      · obtain ⟨A6, y, c6, hc6, hr6, hl6, hm6⟩ := f k hk
        have hc6' := (hbr.cell (p := ⟨q, k, none⟩) (by show q < _; omega)).trans hc6
        have hr6' : Reads wr wr.heap.size 1 A6 y.length (bys y) := (hr6.below (hbr.mono (by omega))).more (by have := hbr.size; omega)
        clear hc6 hr6
        go_wp2_with fail
        obtain ⟨o, ho⟩ : ∃ o, opened y = o := ⟨_, rfl⟩
        have hoo := open_walk hr6' hl6 (by omega)
        rw [ho] at hoo
        refine hoo.mono ?_
        clear hoo
        rintro e w7 ⟨A7, c7, rfl, ho7, hb7, hg7⟩
        dsimp only
        have hb7' := below_then hb7 hbr
        have hr7 := (hr6'.below hb7).more hb7.size
        go_wp2_with fail
        have hoo := open_ref hr7 hl6 (by omega)
        rw [ho] at hoo
        refine hoo.mono ?_
        clear hoo
        rintro e w8 ⟨A8, c8, rfl, ho8, hb8, hg8⟩
        dsimp only
        have hb8' := below_then hb8 hb7'
        have k1 := conv_bytes (c := c7) (ho7.below hb8 (Nat.le_refl _)).reads_
        have k2 := conv_bytes (c := c8) ho8.reads_
        replace ho := Lib.hid ho
        go_wp2_with fail
        go_roundw
        case rel => exact ⟨k + 1, by omega, by simp, by assumption⟩
        case measure => simp [intOf]; omega
      · have hk' : k = 2 := by omega
        subst hk'
        go_wp2_with fail
        go_ret
        exact ⟨rfl, hfin _ _ hb5 (by assumption)⟩
end Go.Proofs.Ytphbiglkkibnfaa
