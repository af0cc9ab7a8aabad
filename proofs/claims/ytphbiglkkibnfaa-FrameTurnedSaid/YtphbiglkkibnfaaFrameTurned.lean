/- FrameTurned's walk. -/
import Derived.Test.YtphbiglkkibnfaaTurned
namespace Go.Proofs.Ytphbiglkkibnfaa
open Go.RowKit

set_option maxHeartbeats 800000 in
theorem frameTurned_walk (A : Option Addr) (c : Nat) (p : List UInt8) (at_ bit : Int) (w : World) (ha0 : 0 ≤ at_) (ha1 : at_ ≤ 65535) (hb0 : 0 ≤ bit) (hb1 : bit ≤ 255) (h : Reads w w.heap.size 1 A p.length (bys p)) (hl : p.length ≤ 140737488351232) :
    Calls Try.prog 5 #[.slice A p.length c, .int .u16 at_, .int .u8 bit] w (SaysTrue w) := by
  go_enter Try.func5, Try.ntmps5
  go_wp2_with fail
  refine (known_true w).mono ?_
  rintro e w1 ⟨rfl, hb1'⟩
  by_cases hbig : 500 < p.length
  · go_wp2_with fail
    go_ret
    exact ⟨rfl, hb1'⟩
  have hr1 := (h.below hb1').more hb1'.size
  go_wp2_with fail
  have hot := opened_turned p (by omega)
  obtain ⟨r, hr⟩ : ∃ r, framed p = r := ⟨_, rfl⟩
  have hrl : r.length = 8 + p.length := by rw [← hr, framed_len]
  have hr0 : [] ++ framed p = r := hr
  rw [hr] at hot
  replace hr := Lib.hid hr
  refine (wrap_walk (bs := []) Reads.none_ hr1 (by simp) (by omega) hr0).mono ?_
  rintro e w2 ⟨A2, c2, rfl, ho2, hb2', hg2⟩
  dsimp only
  have hb2 := below_then hb2' hb1'
  have hrb : r.length ≤ 508 := by omega
  have hr8 : 8 ≤ r.length := by omega
  have hcle := ho2.le_cap
  clear hrl hr0
  obtain ⟨g, cur, rfl, hblk, hcur, hset⟩ := ho2.open_ (by omega)
  have hgw := hg2 g rfl
  obtain ⟨j, hj', hjj⟩ : ∃ j : Nat, at_ % ((r.length : Int) - 4) = (j : Int) ∧ j < r.length - 4 := by
    have h1 := Int.emod_nonneg at_ (show (r.length : Int) - 4 ≠ 0 by omega)
    have h2 := Int.emod_lt_of_pos at_ (show (0 : Int) < (r.length : Int) - 4 by omega)
    exact ⟨(at_ % ((r.length : Int) - 4)).toNat, by omega, by omega⟩
  obtain ⟨i, hi⟩ : ∃ i, 4 + j = i := ⟨_, rfl⟩
  have hii : i < r.length := by omega
  have hcell := hblk.cell i
  rw [hcur i hii] at hcell
  simp only [bys, byv, List.getElem?_map, List.getElem?_eq_getElem hii, Option.map_some] at hcell
  have hfz := hblk.frozen i
  have hij : (4 : Int) + (j : Int) = (i : Int) := by omega
  go_wp2_with fail
  obtain ⟨b', hne, hbv⟩ := bit_byte r[i] (bit % 8) (by omega) (by omega)
  rw [hbv]
  have ho4 := hset i (byv b') hii
  rw [bys_set] at ho4
  have hb4 : Below w.heap.size w (w2.setCell ⟨g, i, none⟩ (byv b')) := hb2.setCell (by show w.heap.size ≤ g; have := hb1'.size; omega) _
  have hop := hot i (by omega) hii b' hne
  change Calls _ _ _ (w2.setCell ⟨g, i, none⟩ (byv b')) _
  generalize w2.setCell ⟨g, i, none⟩ (byv b') = w4 at ho4 hb4 ⊢
  clear hcell hfz hset hcur hblk hbv hot
  have hlc : (r.set i b').length = r.length := by simp
  obtain ⟨d, hd⟩ : ∃ d, r.set i b' = d := ⟨_, rfl⟩
  rw [hd] at ho4 hop hlc
  rw [← hlc] at ho4 ⊢
  have hcle' : d.length ≤ c2 := by omega
  have hdb : d.length ≤ 1000000000 := by omega
  replace hlc := Lib.hid hlc
  refine (open_walk ho4.reads_ hcle' hdb).mono ?_
  rintro e w5 ⟨A5, c5, rfl, ho5, hb5, hg5⟩
  rw [hop]
  have hb5' := below_then hb5 hb4
  go_wp2_with fail
  go_ret
  exact ⟨rfl, hb5'⟩
end Go.Proofs.Ytphbiglkkibnfaa
