/- the document's Open. -/
import Derived.Test.YtdnoafjaheofcaaDoorOpen
set_option linter.unusedSimpArgs false
set_option linter.unusedVariables false
namespace Go.Proofs.YtdnoafjaheofcaaDoor
set_option maxRecDepth 100000
open Go.RowKit

theorem byteAt_low (x r k i : Nat) (hi : i < k) : byteAt (x * 256 ^ k + r) i = byteAt r i := by
  unfold byteAt
  apply UInt8.toNat_inj.1
  rw [UInt8.toNat_ofNat', UInt8.toNat_ofNat', Nat.pow_mul]
  have h1 : (2 ^ 8 : Nat) = 256 := rfl
  rw [h1]
  have h2 : x * 256 ^ k = 256 ^ i * (x * 256 ^ (k - i - 1) * 256) := by
    have : 256 ^ k = 256 ^ i * (256 ^ (k - i - 1) * 256) := by
      rw [← Nat.pow_succ, ← Nat.pow_add]; congr 1; omega
    rw [this]
    simp only [Nat.mul_left_comm, Nat.mul_assoc, Nat.mul_comm]
  rw [h2, Nat.mul_add_div (Nat.pos_of_ne_zero (by simp))]
  omega
theorem putU_low (x r k : Nat) : ∀ j, j ≤ k → putU (x * 256 ^ k + r) j = putU r j
  | 0, _ => rfl
  | j + 1, h => by rw [putU, putU, putU_low x r k j (by omega), byteAt_low x r k j (by omega)]
theorem putU_readU : ∀ l : List UInt8, putU (readU l) l.length = l
  | [] => rfl
  | b :: l => by
    have h := readU_append [b] l
    have hb : readU [b] = b.toNat := by simp [readU]
    rw [List.singleton_append, hb] at h
    rw [h, List.length_cons, putU, putU_low _ _ _ _ (Nat.le_refl _), putU_readU l]
    congr 1
    unfold byteAt
    apply UInt8.toNat_inj.1
    have hl := readU_lt l
    have hbl := b.toNat_lt
    rw [UInt8.toNat_ofNat', Nat.pow_mul, show (2 ^ 8 : Nat) = 256 from rfl, Nat.mul_comm b.toNat, Nat.mul_add_div (by omega), Nat.div_eq_of_lt hl]
    omega
theorem fsum_take (b p : List UInt8) (h4 : 4 ≤ b.length) (hp : p.length = readU (b.take 4)) : crc (b.take 4 ++ p) = fsum p := by
  have h := putU_readU (b.take 4)
  rw [List.length_take, Nat.min_eq_left h4] at h
  rw [fsum, hp, h]

theorem Reads.eqn {w : World} {B size n n' : Nat} {A : Option Addr} {xs : List Value} (h : Reads w B size A n xs) (e : n' = n) : Reads w B size A n' xs := by subst e; exact h

theorem fresh_of {A : Option Addr} {n : Nat} (h : bOf A = bOf none ∨ bOf A = some n) : ∀ g, bOf A = some g → n ≤ g := by
  intro g hg
  rcases h with h | h <;> rw [h] at hg <;> simp [bOf] at hg
  omega

set_option maxHeartbeats 1600000 in
theorem open_ref {A : Option Addr} {c : Nat} {b : List UInt8} {w : World} (h : Reads w w.heap.size 1 A b.length (bys b)) (hc : b.length ≤ c) (hl : b.length ≤ 1000000000) :
    Calls Tryd.prog 38 #[.slice A b.length c] w (OpenRes w (opened b)) := by
  obtain ⟨i0, hi, hz0, hz1, hz2⟩ := info_parts info_u8
  go_enter Tryd.func38, Tryd.ntmps38
  by_cases h8 : b.length < 8
  · go_wp2_with fail
    go_ret3
    have ho : opened b = ([], 0, 23) := by unfold opened; rw [if_pos h8]
    rw [ho]
    exact ⟨none, 0, rfl, Own.none_, Below.refl _ _, by simp [bOf]⟩
  · obtain ⟨ad, rfl, had, hcell⟩ := h.2 (by omega)
    go_wp2_with fail
    refine (ref_read (k := 4) h (by omega) (by omega) (by omega)).mono ?_
    rintro e w1 ⟨rfl, hb1⟩
    dsimp only
    obtain ⟨n, hn⟩ : ∃ n, readU (b.take 4) = n := ⟨_, rfl⟩
    have hnl : n < 4294967296 := by
      have h0 := readU_lt (b.take 4)
      rw [List.length_take, Nat.min_eq_left (by omega)] at h0
      rw [← hn]; simpa using h0
    rw [hn]
    replace hn := Lib.hid hn
    have hr4 : Reads w w.heap.size 1 (some ⟨ad.block, ad.off + 4, none⟩) (b.length - 4) (bys (b.drop 4)) := by
      have := h.cut (k := 4) (cap := b.length) (by omega) (Nat.le_refl _)
      rw [if_neg (by omega), Nat.mul_one, bys_drop] at this
      exact this
    have hr8 : Reads w w.heap.size 1 (if c = 8 then some ad else some ⟨ad.block, ad.off + 8, none⟩) (b.length - 8) (bys (b.drop 8)) := by
      have := h.cut (k := 8) (cap := c) (by omega) hc
      rw [Nat.mul_one, bys_drop] at this
      exact this
    have hrh : Reads w w.heap.size 1 (some ad) 4 (bys (b.take 4)) := by
      have := h.first (k := 4) (by omega)
      rw [Nat.mul_one, bys_take] at this
      exact this
    obtain ⟨s, hs⟩ : ∃ s, readU ((b.drop 4).take 4) = s := ⟨_, rfl⟩
    have hsl : s < 4294967296 := by
      have h0 := readU_lt ((b.drop 4).take 4)
      rw [List.length_take, List.length_drop, Nat.min_eq_left (by omega)] at h0
      rw [← hs]; simpa using h0
    replace hs := Lib.hid hs
    have h4l : (b.drop 4).length = b.length - 4 := by simp
    rw [← h4l] at hr4
    by_cases hbig : 65536 < n
    · go_wp2_with fail
      go_ret3
      have ho : opened b = ([], 0, 22) := by unfold opened; rw [if_neg h8, hn.out, if_pos hbig]
      rw [ho]
      exact ⟨none, 0, rfl, Own.none_, hb1, by simp [bOf]⟩
    by_cases hmore : b.length - 8 < n
    · go_wp2_with fail
      go_ret3
      have ho : opened b = ([], 0, 23) := by unfold opened; rw [if_neg h8, hn.out, if_neg hbig, if_pos hmore]
      rw [ho]
      exact ⟨none, 0, rfl, Own.none_, hb1, by simp [bOf]⟩
    go_wp2_with fail
    rw [← h4l]
    refine (ref_read (k := 4) ((hr4.below hb1).more hb1.size) (by omega) (by omega) (by omega)).mono ?_
    rintro e w2 ⟨rfl, hb2'⟩
    dsimp only
    have hb2 := below_then hb2' hb1
    rw [hs.out]
    obtain ⟨p, hp⟩ : ∃ p, (b.drop 8).take n = p := ⟨_, rfl⟩
    have hpl : p.length = n := by rw [← hp]; simp; omega
    have hrp := (hr8.first (k := n) (by omega))
    rw [Nat.mul_one, bys_take, hp] at hrp
    have hcr : crc (b.take 4 ++ p) = fsum p := fsum_take b p (by omega) (by rw [hn.out, hpl])
    replace hcr := Lib.hid hcr
    replace hp := Lib.hid hp
    replace hn := Lib.hid hn.out
    clear hr8
    subst hpl
    have e88 : 8 + p.length - 8 = p.length := by omega
    have hrc : Reads w2 w2.heap.size 1 (if c = 8 then some ad else some ⟨ad.block, ad.off + 8, none⟩) (8 + p.length - 8) (bys p) := ((hrp.below hb2).more hb2.size).eqn e88
    have hpb : p.length ≤ 100000 := by omega
    clear hrp
    go_wp2_with (at_builtin; go_must (refine wpList_append_mine rfl _ _ 22 22 rfl 5 i0 (.int .u8 0) 1 1 Tryd.underlying22 hi hz0 hz1 hz2 rfl rfl Own.none_ rfl (Src.ofReads Tryd.underlying22 (B := w2.heap.size) (xs := bys p) _ hrc (bys_one _)) ?b1 ?b2 ?grow))
    all_goals first | (unfold maxLen; omega) | omega | skip
    all_goals
     intro A3 c3 w3 ho3 hg3 hat3
     have hb3' : Below w2.heap.size w2 w3 := (Below.refl _ w2).grown hg3 (Nat.le_refl _) (fun k hk => by simp [bOf] at hk)
     have hA3 : ∀ g, bOf A3 = some g → w2.heap.size ≤ g := by
       intro g hg
       rcases hat3 with h | h <;> rw [h] at hg <;> simp [bOf] at hg
       omega
     have hb3 := below_then hb3' hb2
     have hrh3 : Reads w3 w.heap.size 1 (some ad) 4 (bys (b.take 4)) := hrh.below hb3
     try simp only [Nat.zero_add, List.nil_append, e88] at ho3
     try simp only [Nat.zero_add, e88]
     clear hat3
     have ht4 : (b.take 4).length = 4 := by simp; omega
     obtain ⟨q, hq⟩ : ∃ q, b.take 4 = q := ⟨_, rfl⟩
     rw [hq] at hrh3 ht4
     have hcr' := hcr.out
     rw [hq] at hcr'
     obtain ⟨t, ht⟩ : ∃ t, q ++ p = t := ⟨_, rfl⟩
     rw [ht] at hcr'
     have htl : 4 + p.length = t.length := by rw [← ht]; simp [ht4]
     have htb : t.length ≤ 200000 := by omega
     replace ht := Lib.hid ht
     replace htl := Lib.hid htl
     replace hq := Lib.hid hq
     replace ht4 := Lib.hid ht4
     replace hcr' := Lib.hid hcr'
     go_wp2_with (at_builtin; first | (refine wpList_append_mine rfl _ _ 22 22 rfl 5 i0 (.int .u8 0) 1 1 Tryd.underlying22 hi hz0 hz1 hz2 rfl rfl Own.none_ rfl (Src.ofReads Tryd.underlying22 _ hrh3 (bys_one _)) (by decide) (by decide) (fun A4 c4 w4 ho4 hg4 hat4 => ?_); have hb4' : Below w3.heap.size w3 w4 := (Below.refl _ w3).grown hg4 (Nat.le_refl _) (fun k hk => by simp [bOf] at hk); have hA4 : ∀ g, bOf A4 = some g → w3.heap.size ≤ g := (fresh_of hat4); have hb4 := below_then hb4' hb3; have ho34 := ho3.below hb4' (Nat.le_refl _); clear hat4; simp only [Nat.zero_add, List.nil_append] at ho4) | (refine wpList_append_mine rfl _ _ 22 22 rfl 5 i0 (.int .u8 0) 1 1 Tryd.underlying22 hi hz0 hz1 hz2 rfl rfl ho4 rfl (Src.ofReads Tryd.underlying22 _ ho34.reads_ (bys_one _)) (by unfold maxLen; omega) (by omega) (fun A5 c5 w5 ho5 hg5 hat5 => ?_); clear hat5))
     have hb5 : Below w.heap.size w w5 := hb4.grown hg5 hb4.size (fun k hk => Nat.le_trans hb3.size (hA4 k hk))
     have ho35 : Own w5 5 1 A3 p.length c3 (bys p) := ho34.upd (S := fun k => some k = bOf A4) ((Upd.refl _ _).grown hg5 (fun k hk _ => hk.symm)) (fun g hg hh => by
       have := ho3.lt hg; have := hA4 g hh.symm; omega)
     rw [← bys_append, ht.out, htl.out] at ho5
     rw [htl.out]
     go_wp2_with fail
     refine (ref_sum_contract A5 c5 t w5 ho5.reads_ (by omega)).mono ?_
     rintro e w6 ⟨rfl, hb6'⟩
     dsimp only
     rw [hcr'.out]
     have hb6 := below_then hb6' hb5
     have ho36 := ho35.below hb6' (Nat.le_refl _)
     have hfl := fsum_lt p
     obtain ⟨f, hf⟩ : ∃ f, fsum p = f := ⟨_, rfl⟩
     rw [hf] at hfl ⊢
     replace hf := Lib.hid hf
     by_cases hfs : f = s
     · subst hfs
       go_wp2_with fail
       go_ret3
       have ho : opened b = (p, 8 + p.length, 0) := by unfold opened; rw [if_neg h8, hn.out, if_neg hbig, if_neg hmore, hp.out, hf.out, hs.out, if_pos rfl]
       rw [ho]
       exact ⟨A3, c3, by simp, ho36, hb6, fun g hg => Nat.le_trans hb2.size (hA3 g hg)⟩
     · go_wp2_with fail
       go_ret3
       have ho : opened b = ([], 0, 21) := by unfold opened; rw [if_neg h8, hn.out, if_neg hbig, if_neg hmore, hp.out, hf.out, hs.out, if_neg hfs]
       rw [ho]
       exact ⟨none, 0, rfl, Own.none_, hb6, by simp [bOf]⟩
end Go.Proofs.YtdnoafjaheofcaaDoor
