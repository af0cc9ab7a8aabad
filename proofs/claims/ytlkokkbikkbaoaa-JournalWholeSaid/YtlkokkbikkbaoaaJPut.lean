/- journal.Put. -/
import Derived.Test.YtlkokkbikkbaoaaJPay
set_option linter.unusedSimpArgs false
set_option linter.unusedVariables false
set_option linter.unusedSimpArgs false
set_option linter.unusedVariables false
namespace Go.Proofs.Ytlkokkbikkbaoaa
open Go.RowKit
set_option maxRecDepth 100000

def errJ (r : RecD) : Nat := if errP r ≠ 0 then errP r else if 65536 < (bytesP r).length then 22 else 0
theorem bytesP_le {r : RecD} (h : errP r = 0) : (bytesP r).length ≤ 100000 := by
  unfold bytesP
  split
  · simp [putU_len]
  split
  · rename_i h1 h2
    have he : errO r.o = 0 := by
      unfold errP at h
      split at h
      · cases h
      · first | exact h | (rw [if_pos h2] at h; exact h)
    obtain ⟨z1, z2, z3, z4⟩ := errO_zero he
    have hee := encL_le _ z4
    have hbe := bytesO_len r.o
    simp only [List.length_append, putU_len, hbe]
    simp only [List.length_cons, List.length_nil]
    omega
  · simp [putU_len]

set_option maxHeartbeats 3200000 in
theorem jput_walk {k n : Int} {v c1 s1 n1 : Nat} {g m bs : List UInt8} {gg mm : ByteArray} {l : List Val} {A A0 : Option Addr} {K cc B c0 : Nat} {w : World} (ho : OpReads w B ⟨c1, s1, n1, g, m, l⟩ #[.int .u32 (c1 : Int), .int .u32 (s1 : Int), .int .u16 (n1 : Int), .string gg, .string mm, .slice A K cc]) (hB : B ≤ w.heap.size) (hv : v < 18446744073709551616) (hg : g.length ≤ 1000) (hm : m.length ≤ 1000)
    (hA : Reads w w.heap.size 1 A0 bs.length (bys bs)) (hl : bs.length ≤ 100000000) :
    Calls Try.prog 6 #[.slice A0 bs.length c0, .agg #[.int .i64 k, .int .u64 (v : Int), .int .i64 n, .int .u32 (c1 : Int), .int .u32 (s1 : Int), .int .u16 (n1 : Int), .string gg, .string mm, .slice A K cc]] w (PayRes w (errJ ⟨k, v, n, ⟨c1, s1, n1, g, m, l⟩⟩) (bs ++ framed (bytesP ⟨k, v, n, ⟨c1, s1, n1, g, m, l⟩⟩))) := by
  have hR1 := Blk.new w 40 #[.int .i64 k, .int .u64 (v : Int), .int .i64 n, .int .u32 (c1 : Int), .int .u32 (s1 : Int), .int .u16 (n1 : Int), .string gg, .string mm, .slice A K cc]
  have hb1 := (Below.refl w.heap.size w).alloc (Nat.le_refl _) (.cells #[.int .i64 k, .int .u64 (v : Int), .int .i64 n, .int .u32 (c1 : Int), .int .u32 (s1 : Int), .int .u16 (n1 : Int), .string gg, .string mm, .slice A K cc] 40)
  have hpay := pay_walk (k := k) (n := n) (v := v) (ho.below (hb1.mono hB)) (Nat.le_trans hB hb1.size) hv hg hm
  have hc := hR1.rec9
  have hle := bytesP_le (r := ⟨k, v, n, ⟨c1, s1, n1, g, m, l⟩⟩)
  unfold errJ
  obtain ⟨p, hp⟩ : ∃ p, bytesP ⟨k, v, n, ⟨c1, s1, n1, g, m, l⟩⟩ = p := ⟨_, rfl⟩
  obtain ⟨x, hx⟩ : ∃ x, errP ⟨k, v, n, ⟨c1, s1, n1, g, m, l⟩⟩ = x := ⟨_, rfl⟩
  obtain ⟨r, hr⟩ : ∃ r, bs ++ framed p = r := ⟨_, rfl⟩
  rw [hp, hx] at hpay hle
  rw [hp, hx, hr]
  obtain ⟨E, hE⟩ : ∃ E, (if x ≠ 0 then x else if 65536 < p.length then 22 else 0) = E := ⟨_, rfl⟩
  rw [hE]
  replace hE := Lib.hid hE
  have hA1 := (hA.below hb1).more hb1.size
  obtain ⟨N, hN⟩ : ∃ N, bs.length = N := ⟨_, rfl⟩
  rw [hN]
  replace hN := Lib.hid hN
  replace hr := Lib.hid hr
  clear hp hx
  replace hpay := Lib.hid hpay
  replace hle := Lib.hid hle
  replace hA1 := Lib.hid hA1
  replace hb1 := Lib.hid hb1
  replace hl := Lib.hid hl
  clear hA ho hR1
  go_enter Try.func6, Try.ntmps6
  go_wp2_with fail
  refine hpay.out.mono ?_
  clear hpay hc
  intro e w2 h2
  unfold PayRes at h2
  by_cases hx0 : x = 0
  · subst hx0
    obtain ⟨A2, c2, rfl, ho2, hb2', hg2⟩ := h2.1 rfl
    clear h2
    dsimp only
    have hb2 := below_then hb2' hb1.out
    have hle := hle.out rfl
    by_cases hbig : 65536 < p.length
    · have hE2 : E = 22 := by rw [← hE.out, if_neg (by simp), if_pos hbig]
      subst hE2
      have hwr := wrap_big (A := A0) (C := A2) (c := c0) (d := c2) (n := N) (w := w2) hbig (by omega)
      obtain ⟨M, hM⟩ : ∃ M, p.length = M := ⟨_, rfl⟩
      rw [hM] at hwr ⊢
      replace hwr := Lib.hid hwr
      clear ho2 hb2' hg2 hM
      go_wp2_with fail
      refine hwr.out.mono ?_
      clear hwr
      rintro e w3 ⟨rfl, rfl⟩
      dsimp only
      go_wp2_with fail
      go_ret2
      exact ⟨fun h => absurd h (by decide), fun _ => ⟨rfl, hb2⟩⟩
    · have hE2 : E = 0 := by rw [← hE.out, if_neg (by simp), if_neg hbig]
      subst hE2
      have hwr := wrap_walk (c := c0) (d := c2) ((hA1.out.below hb2').more hb2'.size) ho2.reads_ (by have := hl.out; omega) (by omega) hr.out
      rw [hN.out] at hwr
      obtain ⟨M, hM⟩ : ∃ M, p.length = M := ⟨_, rfl⟩
      rw [hM] at hwr ⊢
      replace hwr := Lib.hid hwr
      have hs2 := hb2.size
      clear ho2 hb2' hg2 hM
      go_wp2_with fail
      refine hwr.out.mono ?_
      clear hwr
      rintro e w3 ⟨A3, c3, rfl, ho3, hb3, hg3⟩
      dsimp only
      have hfin := below_then hb3 hb2
      have hg3' : ∀ g, bOf A3 = some g → w.heap.size ≤ g := fun g hg => Nat.le_trans hs2 (hg3 g hg)
      go_wp2_with fail
      go_ret2
      exact ⟨fun _ => ⟨A3, c3, rfl, ho3, hfin, hg3'⟩, fun h => absurd rfl h⟩
  · obtain ⟨rfl, hb2'⟩ := h2.2 hx0
    clear h2
    dsimp only
    have hb2 := below_then hb2' hb1.out
    have hE2 : E = x := by rw [← hE.out, if_pos hx0]
    subst hE2
    have hne : ((E : Int) != 0) = true := bne_iff_ne.2 (by omega)
    replace hx0 := Lib.hid hx0
    go_wp2_with fail
    go_ret2
    exact ⟨fun h => absurd h hx0.out, fun _ => ⟨rfl, hb2⟩⟩
end Go.Proofs.Ytlkokkbikkbaoaa
