/- DiskTwice's walk. -/
import Derived.Test.YtmebhnkmfdffoaaDiskKnown
namespace Go.Proofs.Ytmebhnkmfdffoaa
open Go.RowKit

theorem conv_bytes {n c B : Nat} {A : Option Addr} {bs : List UInt8} {w : World} (h : Reads w B 1 A n (bys bs)) : (convert 22 9 (.slice A n c)).run Try.prog w = .ok (.string (bstr bs)) w :=
  run_bytes_str (P := Try.prog) 22 5 Try.underlying22 Try.underlying5 9 Try.underlying9 c h

set_option maxHeartbeats 1600000 in
theorem twice_walk (A B C : Option Addr) (ca cb cc : Nat) (xs ys zs : List UInt8) (x y : Int) (n : Int) (w : World) (hx0 : 0 ≤ x) (hx1 : x ≤ 255) (hy0 : 0 ≤ y) (hy1 : y ≤ 255)
    (ha : Reads w w.heap.size 1 A xs.length (bys xs)) (hb : Reads w w.heap.size 1 B ys.length (bys ys)) (hc : Reads w w.heap.size 1 C zs.length (bys zs)) (hca : xs.length ≤ 140737488351232) (hcb : ys.length ≤ 140737488351232) (hcc : zs.length ≤ 140737488351232) :
    Calls Try.prog 5 #[.slice A xs.length ca, .slice B ys.length cb, .slice C zs.length cc, .int .u8 x, .int .u8 y, .int .i64 n] w (SaysTrue w) := by
  by_cases h1 : 400 < xs.length + ys.length + zs.length
  · go_enter Try.func5, Try.ntmps5
    go_wp2_with fail
    refine (known_true _).mono ?_
    rintro e w1 ⟨rfl, hb1⟩
    go_wp2_with fail
    go_ret
    exact ⟨rfl, hb1⟩
  go_enter Try.func5, Try.ntmps5
  go_wp2_with fail
  refine (known_true _).mono ?_
  rintro e w1 ⟨rfl, hb1⟩
  go_wp2_with fail
  refine (din_new hb1).mono ?_
  rintro e w2 ⟨p, A2, c2, rfl, hd2⟩
  have ha2 := ha.below hd2.bel
  go_wp2_with fail
  refine (din_append hd2 ha2 (by simp; omega)).mono ?_
  rintro e w3 ⟨A3, c3, rfl, hd3⟩
  simp only [List.nil_append] at hd3
  clear hd2 ha2 hb1
  go_wp2_with fail
  refine (din_sync hd3).mono ?_
  rintro e w4 ⟨A4, c4, rfl, hd4⟩
  have hb4 := hb.below hd4.bel
  clear hd3
  go_wp2_with fail
  refine (din_append hd4 hb4 (by omega)).mono ?_
  rintro e w5 ⟨A5, c5, rfl, hd5⟩
  clear hd4 hb4
  go_wp2_with fail
  refine (din_crash x hd5 (by simp; omega) (by simp)).mono ?_
  rintro e w6 ⟨A6, c6, rfl, hd6⟩
  clear hd5
  obtain ⟨s6, hs6, hl6, hs6'⟩ : ∃ s6 : List UInt8, DiskIn w w6 p A6 c6 s6 s6.length ∧ s6.length ≤ xs.length + ys.length ∧ s6 = (xs ++ ys).take (xs.length + cutAt x ((xs ++ ys).length - xs.length)) := by
    have hk := cutAt_le x ((xs ++ ys).length - xs.length)
    refine ⟨_, ?_, ?_, rfl⟩
    · rwa [show ((xs ++ ys).take (xs.length + cutAt x ((xs ++ ys).length - xs.length))).length = xs.length + cutAt x ((xs ++ ys).length - xs.length) from by simp at hk ⊢; omega]
    · rw [List.length_take, List.length_append]; omega
  clear hd6 hs6'
  go_wp2_with fail
  refine (disk_bytes hs6.at_ (by omega)).mono ?_
  rintro e w7 ⟨A7, c7, rfl, ho7, hb7, hg7⟩
  have hd7 := hs6.below hb7 (Nat.le_refl _)
  have k7 := conv_bytes (c := c7) ho7.reads_
  clear hs6 hb7 hg7 ho7
  go_wp2_with fail
  refine (din_crash y hd7 (by omega) (Nat.le_refl _)).mono ?_
  rintro e w8 ⟨A8, c8, rfl, hd8⟩
  replace hd8 : DiskIn w w8 p A8 c8 s6 s6.length := by
    simpa [cutAt] using hd8
  clear hd7 k7
  go_wp2_with fail
  refine (disk_bytes hd8.at_ (by omega)).mono ?_
  rintro e w9 ⟨A9, c9, rfl, ho9, hb9, hg9⟩
  have hd9 := hd8.below hb9 (Nat.le_refl _)
  have k9 := conv_bytes (c := c9) ho9.reads_
  clear hd8 hb9 hg9 ho9
  have hc9 := hc.below hd9.bel
  go_wp2_with fail
  refine (din_append hd9 hc9 (by omega)).mono ?_
  rintro e w10 ⟨A10, c10, rfl, hd10⟩
  clear hd9 k9 hc9
  go_wp2_with fail
  refine (din_truncate n hd10 (by simp; omega)).mono ?_
  rintro e w11 ⟨A11, c11, rfl, hd11⟩
  clear hd10
  obtain ⟨m, hm, hm0, hif⟩ := cutAt_if n (s6 ++ zs).length
  have hk := cutAt_le n (s6 ++ zs).length
  have kc := conv_bytes (c := cc) (hc.below hd11.bel)
  have hadd := run_bstr_add (P := Try.prog) w11 s6 zs (by omega)
  have hall : (s6 ++ zs).length ≤ 1000000 := by simp; omega
  generalize cutAt n (s6 ++ zs).length = k at *
  obtain ⟨ts, hts, hkl⟩ : ∃ ts, ts = (s6 ++ zs).take k ∧ ts.length = k := ⟨_, rfl, by simp at hk ⊢; omega⟩
  rw [← hts] at hd11
  have hq : (ts == (s6 ++ zs).take k) = true := by simp [hts]
  generalize s6 ++ zs = all at *
  have HKL := Lib.hid hkl
  have htl : ts.length ≤ 1000000 := by omega
  clear hkl hts
  go_wp2_with fail
  refine (disk_clone hd11.at_ htl).mono ?_
  rintro e w12 ⟨p2, A12, c12, rfl, he12, hb12, hp2, hA12⟩
  have hd12 := hd11.below hb12 (Nat.le_refl _)
  clear kc hadd hm hif
  go_wp2_with fail
  have hpp : p < p2 := Nat.lt_of_lt_of_le hd11.at_.lt hp2
  refine (disk_crash 0 hd12.at_ htl (by rw [HKL.out]; exact Nat.le_refl _)).mono ?_
  rintro e w13 ⟨rfl, c13, hd13, hu13⟩
  have hd13' : DiskAt w13 p A11 c13 ts k := by
    have e1 : k + cutAt 0 (ts.length - k) = k := by simp [cutAt]
    rw [e1, List.take_of_length_le (Nat.le_of_eq HKL.out), HKL.out] at hd13
    exact hd13
  have he13 : DiskAt w13 p2 A12 c12 ts k := he12.upd hu13 (by omega) (fun g hg e => by have h1 := hA12 g hg; have h2 := hd11.at_.lt; omega)
  have hb13 : Below w.heap.size w w13 := hd12.bel.trans (hu13.below hd12.bel.size (by rintro k hk rfl; have := hd12.hp; omega))
  clear hd13 hu13 he12 hd12 hb12 hd11 ha hb hc hA12
  go_wp2_with fail
  go_region_held (fun W => Below w13.heap.size w13 W) (first | assumption | exact (Below.refl _ _).drew) (first | (go_at_call 12; refine (disk_bytes (hd13'.below (by assumption) (Nat.le_refl _)) htl).mono ?_; rintro e W1 ⟨A8, c8, rfl, ho8, hb8, hg8⟩; have hn : Below w13.heap.size w13 W1 := below_then hb8 (by assumption); have kc := conv_bytes (c := c8) ho8.reads_) | (go_at_call 10; refine (disk_sure (hd13'.below (by assumption) (Nat.le_refl _))).mono ?_; rintro e W2 ⟨rfl, rfl⟩) | (go_at_call 12; refine (disk_bytes (he13.below (by assumption) (Nat.le_refl _)) htl).mono ?_; rintro e W1 ⟨A8, c8, rfl, ho8, hb8, hg8⟩; have hn : Below w13.heap.size w13 W1 := below_then hb8 (by assumption); have kc := conv_bytes (c := c8) ho8.reads_))
  go_wp2_with fail
  go_ret
  exact ⟨rfl, hb13.trans ((by assumption : Below w13.heap.size w13 _).mono hb13.size)⟩
end Go.Proofs.Ytmebhnkmfdffoaa
