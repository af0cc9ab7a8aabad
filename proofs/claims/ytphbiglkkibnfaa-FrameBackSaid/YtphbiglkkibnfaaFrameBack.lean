/- FrameBack's walk. -/
import Derived.Test.YtphbiglkkibnfaaFrameSums
namespace Go.Proofs.Ytphbiglkkibnfaa
open Go.RowKit

theorem add_row (g n : Nat) : (⟨g, 0, none⟩ : Addr).add n = ⟨g, n, none⟩ := by unfold Addr.add; split <;> simp_all

set_option maxHeartbeats 1600000 in
theorem frameBack_walk (A B C : Option Addr) (ca cb cc : Nat) (b p more : List UInt8) (w : World) (ha : Reads w w.heap.size 1 A b.length (bys b)) (hb : Reads w w.heap.size 1 B p.length (bys p)) (hc : Reads w w.heap.size 1 C more.length (bys more))
    (hca : b.length ≤ ca) (hla : b.length ≤ 140737488351232) (hlb : p.length ≤ 140737488351232) (hlc : more.length ≤ 140737488351232) :
    Calls Try.prog 3 #[.slice A b.length ca, .slice B p.length cb, .slice C more.length cc] w (SaysTrue w) := by
  obtain ⟨i0, hi, hz0, hz1, hz2⟩ := info_parts info_u8
  go_enter Try.func3, Try.ntmps3
  go_wp2_with fail
  refine (known_true w).mono ?_
  rintro e w1 ⟨rfl, hb1⟩
  by_cases h1 : 100 < b.length
  · go_wp2_with fail
    go_ret
    exact ⟨rfl, hb1⟩
  by_cases h2 : 500 < p.length
  · go_wp2_with fail
    go_ret
    exact ⟨rfl, hb1⟩
  by_cases h3 : 100 < more.length
  · go_wp2_with fail
    go_ret
    exact ⟨rfl, hb1⟩
  have ha1 := (ha.below hb1).more hb1.size
  have hp1 := (hb.below hb1).more hb1.size
  go_wp2_with fail
  obtain ⟨r, hr⟩ : ∃ r, b ++ framed p = r := ⟨_, rfl⟩
  have hrl : r.length = b.length + (8 + p.length) := by rw [← hr, List.length_append, framed_len]
  have hrd : r.drop b.length = framed p := by rw [← hr, List.drop_left]
  replace hr := Lib.hid hr
  replace hrl := Lib.hid hrl
  replace hrd := Lib.hid hrd
  refine (wrap_walk ha1 hp1 (by omega) (by omega) hr.out).mono ?_
  rintro e w2 ⟨A2, c2, rfl, ho2, hb2', hg2⟩
  dsimp only
  have hb2 := below_then hb2' hb1
  have ha2 := (ha1.below hb2').more hb2'.size
  have hp2 := (hp1.below hb2').more hb2'.size
  go_wp2_with fail
  refine (wrap_ref (Grows.full ha2 (Nat.le_refl _) (Nat.le_refl _)) hp2 (Nat.le_refl _) (by simp) (by omega) (by omega) hr.out).mono ?_
  rintro e w3 ⟨A3, c3, rfl, ho3, hu3, hg3⟩
  dsimp only
  have hb3' : Below w2.heap.size w2 w3 := hu3.below (Nat.le_refl _) (fun k _ h => by simp at h)
  have hb3 := below_then hb3' hb2
  have ho23 := ho2.below hb3' (Nat.le_refl _)
  have hcle := ho2.le_cap
  have hbr : b.length < r.length := by rw [hrl.out]; omega
  have hrb : r.length ≤ 1000 := by rw [hrl.out]; omega
  have hbc2 : b.length < c2 := by omega
  obtain ⟨g, cur, rfl, hblk, hcur, hset⟩ := ho23.open_ (by omega)
  have hfr : Reads w3 w3.heap.size 1 (some ⟨g, b.length, none⟩) (r.length - b.length) (bys (framed p)) := by
    have := ho23.reads_.cut (k := b.length) (cap := r.length) (by omega) (Nat.le_refl _)
    rw [if_neg (by omega), Nat.mul_one, bys_drop, hrd.out] at this
    rw [Option.map_some, add_row] at this
    exact this
  clear hcur hset hblk
  have hmore3 := (hc.below hb3).more hb3.size
  have hfl : r.length - b.length = (framed p).length := by rw [hrl.out, framed_len]; omega
  have hop := opened_framed p more (by omega)
  obtain ⟨fr, hfrq⟩ : ∃ fr, framed p = fr := ⟨_, rfl⟩
  rw [hfrq] at hfr hfl hop
  obtain ⟨t, ht⟩ : ∃ t, fr ++ more = t := ⟨_, rfl⟩
  have htl : (r.length - b.length) + more.length = t.length := by rw [← ht, List.length_append, hfl]
  rw [ht] at hop
  have htb : t.length ≤ 2000 := by omega
  replace ht := Lib.hid ht
  replace htl := Lib.hid htl
  replace hop := Lib.hid hop
  clear hfl hfrq
  go_wp2_with (at_builtin; first | (refine wpList_append_mine rfl _ _ 22 22 rfl 5 i0 (.int .u8 0) 1 1 Try.underlying22 hi hz0 hz1 hz2 rfl rfl Own.none_ rfl (Src.ofReads Try.underlying22 _ hfr (bys_one _)) (by unfold maxLen; omega) (by omega) (fun A4 c4 w4 ho4 hg4 hat4 => ?_); have hb4' : Below w3.heap.size w3 w4 := (Below.refl _ w3).grown hg4 (Nat.le_refl _) (fun k hk => by simp [bOf] at hk); have hA4 := fresh_of hat4; have hmore4 := (hmore3.below hb4'); clear hat4; simp only [Nat.zero_add, List.nil_append] at ho4) | (refine wpList_append_mine rfl _ _ 22 22 rfl 5 i0 (.int .u8 0) 1 1 Try.underlying22 hi hz0 hz1 hz2 rfl rfl ho4 rfl (Src.ofReads Try.underlying22 _ hmore4 (bys_one _)) (by unfold maxLen; omega) (by omega) (fun A5 c5 w5 ho5 hg5 hat5 => ?_); clear hat5; rw [← bys_append, ht.out, htl.out] at ho5; rw [htl.out]))
  have hb5' : Below w3.heap.size w3 w5 := hb4'.grown hg5 hb4'.size hA4
  refine (open_walk ho5.reads_ ho5.le_cap (by omega)).mono ?_
  rintro e w6 ⟨A6, c6, rfl, ho6, hb6', hg6⟩
  rw [hop.out] at ho6 ⊢
  dsimp only at ho6 ⊢
  have hb36 := below_then hb6' hb5'
  have hb6 := below_then hb36 hb3
  have hp6 := ((hp2.below hb3').more hb3'.size).below hb36
  have k1 := conv_bytes (c := c2) (ho23.below hb36 (Nat.le_refl _)).reads_
  have k2 := conv_bytes (c := c3) (ho3.below hb36 (Nat.le_refl _)).reads_
  have k3 := conv_bytes (c := c6) ho6.reads_
  have k4 := conv_bytes (c := cb) hp6
  have hp6' := hp6.more hb36.size
  have e8 : (((8 + p.length : Nat) : Int) == (p.length : Int) + 8) = true := by rw [beq_iff_eq]; omega
  have hcl := crc_lt p
  go_wp2_with fail
  refine (sum_contract B cb p w6 hp6' hlb).mono ?_
  rintro e w7 ⟨rfl, hb7⟩
  dsimp only
  have hp7 := (hp6'.below hb7).more hb7.size
  have hb7' := below_then hb7 hb6
  go_wp2_with fail
  refine (ref_sum_contract B cb p w7 hp7 hlb).mono ?_
  rintro e w8 ⟨rfl, hb8⟩
  dsimp only
  have hb8' := below_then hb8 hb7'
  go_wp2
  go_ret
  exact ⟨rfl, hb8'⟩
end Go.Proofs.Ytphbiglkkibnfaa
