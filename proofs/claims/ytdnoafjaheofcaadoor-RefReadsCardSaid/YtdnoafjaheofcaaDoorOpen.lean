/- frame.Open, the document's Open. -/
import Derived.Test.YtdnoafjaheofcaaDoorWrapRef
set_option linter.unusedSimpArgs false
set_option linter.unusedVariables false
namespace Go.Proofs.YtdnoafjaheofcaaDoor
set_option maxRecDepth 100000
open Go.RowKit

def opened (b : List UInt8) : List UInt8 × Nat × Nat :=
  if b.length < 8 then ([], 0, 23) else
  if 65536 < readU (b.take 4) then ([], 0, 22) else
  if b.length - 8 < readU (b.take 4) then ([], 0, 23) else
  if fsum ((b.drop 8).take (readU (b.take 4))) = readU ((b.drop 4).take 4) then ((b.drop 8).take (readU (b.take 4)), 8 + readU (b.take 4), 0) else ([], 0, 21)

def OpenRes (w : World) (r : List UInt8 × Nat × Nat) (e : Ending) (w' : World) : Prop :=
  ∃ A' c', e = .returned (.tuple #[.slice A' r.1.length c', .int .i64 (r.2.1 : Nat), .int .i64 (r.2.2 : Nat)]) ∧ Own w' 5 1 A' r.1.length c' (bys r.1) ∧ Below w.heap.size w w' ∧ ∀ g, bOf A' = some g → w.heap.size ≤ g

set_option maxHeartbeats 800000 in
theorem open_walk {A : Option Addr} {c : Nat} {b : List UInt8} {w : World} (h : Reads w w.heap.size 1 A b.length (bys b)) (hc : b.length ≤ c) (hl : b.length ≤ 1000000000) :
    Calls Tryd.prog 50 #[.slice A b.length c] w (OpenRes w (opened b)) := by
  go_enter Tryd.func50, Tryd.ntmps50
  by_cases h8 : b.length < 8
  · go_wp2_with fail
    go_ret3
    have ho : opened b = ([], 0, 23) := by unfold opened; rw [if_pos h8]
    rw [ho]
    exact ⟨none, 0, rfl, Own.none_, Below.refl _ _, by simp [bOf]⟩
  · obtain ⟨ad, rfl, had, hcell⟩ := h.2 (by omega)
    go_wp2_with fail
    refine (wire_read (k := 4) h (by omega) (by omega) hc (by omega)).mono ?_
    rintro e w1 ⟨rfl, hb1⟩
    dsimp only
    obtain ⟨n, hn⟩ : ∃ n, readU (b.take 4) = n := ⟨_, rfl⟩
    have hnl : n < 4294967296 := by
      have h0 := readU_lt (b.take 4)
      rw [List.length_take, Nat.min_eq_left (by omega)] at h0
      rw [← hn]; simpa using h0
    rw [hn]
    replace hn := Lib.hid hn
    have hr4 : Reads w w.heap.size 1 (some ⟨ad.block, ad.off + 4, none⟩) (b.length - 4) (bys (b.drop 4)) := by
      have := h.cut (k := 4) (cap := b.length) (by omega) (Nat.le_refl _)
      rw [if_neg (by omega), Nat.mul_one, bys_drop] at this
      exact this
    have hr8 : Reads w w.heap.size 1 (if c = 8 then some ad else some ⟨ad.block, ad.off + 8, none⟩) (b.length - 8) (bys (b.drop 8)) := by
      have := h.cut (k := 8) (cap := c) (by omega) hc
      rw [Nat.mul_one, bys_drop] at this
      exact this
    obtain ⟨s, hs⟩ : ∃ s, readU ((b.drop 4).take 4) = s := ⟨_, rfl⟩
    have hsl : s < 4294967296 := by
      have h0 := readU_lt ((b.drop 4).take 4)
      rw [List.length_take, List.length_drop, Nat.min_eq_left (by omega)] at h0
      rw [← hs]; simpa using h0
    replace hs := Lib.hid hs
    have h4l : (b.drop 4).length = b.length - 4 := by simp
    rw [← h4l] at hr4
    go_wp2_with fail
    rw [← h4l]
    refine (wire_read (k := 4) ((hr4.below hb1).more hb1.size) (by omega) (by omega) (by omega) (by omega)).mono ?_
    rintro e w2 ⟨rfl, hb2'⟩
    dsimp only
    have hb2 := below_then hb2' hb1
    rw [hs.out]
    by_cases hbig : 65536 < n
    · go_wp2_with fail
      go_ret3
      have ho : opened b = ([], 0, 22) := by unfold opened; rw [if_neg h8, hn.out, if_pos hbig]
      rw [ho]
      exact ⟨none, 0, rfl, Own.none_, hb2, by simp [bOf]⟩
    by_cases hmore : b.length - 8 < n
    · go_wp2_with fail
      go_ret3
      have ho : opened b = ([], 0, 23) := by unfold opened; rw [if_neg h8, hn.out, if_neg hbig, if_pos hmore]
      rw [ho]
      exact ⟨none, 0, rfl, Own.none_, hb2, by simp [bOf]⟩
    obtain ⟨p, hp⟩ : ∃ p, (b.drop 8).take n = p := ⟨_, rfl⟩
    have hpl : p.length = n := by rw [← hp]; simp; omega
    have hrp := (hr8.first (k := n) (by omega))
    rw [Nat.mul_one, bys_take, hp] at hrp
    have hrp' : Reads w w.heap.size 1 (some ⟨ad.block, ad.off + 8, none⟩) n (bys p) := by
      rcases Nat.eq_zero_or_pos n with h0 | h0
      · subst h0
        have := hrp.1
        exact ⟨this, fun h => absurd h (by omega)⟩
      · rw [if_neg (by omega)] at hrp
        exact hrp
    replace hp := Lib.hid hp
    replace hn := Lib.hid hn.out
    clear hrp hr8
    subst hpl
    have hrc : Reads w2 w2.heap.size 1 (some ⟨ad.block, ad.off + 8, none⟩) p.length (bys p) := (hrp'.below hb2).more hb2.size
    have hpb : p.length ≤ 100000 := by omega
    clear hrp'
    go_wp2_with fail
    all_goals
     refine (clone_bytes (B := w2.heap.size) (bs := p) (by first | exact hrc | exact ⟨hrc.1, fun h => absurd h (by omega)⟩) (Nat.le_refl _) (Nat.le_trans hpb (by decide))).mono ?_
     rintro e w3 ⟨A3, c3, rfl, ho3, hb3', hg3⟩
     dsimp only
     have hb3 := below_then hb3' hb2
     go_wp2_with fail
     refine (sum_walk ho3.reads_ (by omega)).mono ?_
     rintro e w4 ⟨rfl, hb4'⟩
     dsimp only
     have hb4 := below_then hb4' hb3
     have hfl := fsum_lt p
     obtain ⟨f, hf⟩ : ∃ f, fsum p = f := ⟨_, rfl⟩
     rw [hf] at hfl ⊢
     replace hf := Lib.hid hf
     by_cases hfs : f = s
     · subst hfs
       go_wp2_with fail
       go_ret3
       have ho : opened b = (p, 8 + p.length, 0) := by unfold opened; rw [if_neg h8, hn.out, if_neg hbig, if_neg hmore, hp.out, hf.out, hs.out, if_pos rfl]
       rw [ho]
       exact ⟨A3, c3, by simp, ho3.below hb4' (Nat.le_refl _), hb4, fun g hg => Nat.le_trans hb2.size (hg3 g hg)⟩
     · go_wp2_with fail
       go_ret3
       have ho : opened b = ([], 0, 21) := by unfold opened; rw [if_neg h8, hn.out, if_neg hbig, if_neg hmore, hp.out, hf.out, hs.out, if_neg hfs]
       rw [ho]
       exact ⟨none, 0, rfl, Own.none_, hb4, by simp [bOf]⟩
end Go.Proofs.YtdnoafjaheofcaaDoor
