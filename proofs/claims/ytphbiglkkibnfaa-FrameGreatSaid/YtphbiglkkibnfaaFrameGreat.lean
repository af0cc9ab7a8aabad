/- FrameGreat's walk. -/
import Derived.Test.YtphbiglkkibnfaaTurned
import Derived.Test.YtphbiglkkibnfaaZeros
namespace Go.Proofs.Ytphbiglkkibnfaa
open Go.RowKit

theorem opened_head (k : Nat) (hk : k ≤ 65538) (hk0 : 65534 ≤ k) : opened (putU k 4 ++ List.replicate 20 0) = ([], 0, if 65536 < k then 22 else 23) := by
  have hl : (putU k 4 ++ List.replicate 20 (0 : UInt8)).length = 24 := by simp [putU_len]
  have hn : readU ((putU k 4 ++ List.replicate 20 (0 : UInt8)).take 4) = k := by rw [take_putU, readU_put]; exact Nat.mod_eq_of_lt (by omega)
  unfold opened
  rw [hl, hn, if_neg (by omega)]
  by_cases h : 65536 < k
  · rw [if_pos h, if_pos h]
  · rw [if_neg h, if_neg h, if_pos (by omega)]

set_option maxHeartbeats 800000 in
theorem frameGreat_walk (n : Int) (w : World) (h0 : 0 ≤ n) (h1 : n ≤ 255) :
    Calls Try.prog 7 #[.int .u8 n] w (SaysTrue w) := by
  obtain ⟨i0, hi, hz0, hz1, hz2⟩ := info_parts info_u8
  go_enter Try.func7, Try.ntmps7
  go_wp2_with fail
  refine (known_true w).mono ?_
  rintro e w1 ⟨rfl, hb1⟩
  obtain ⟨p, hk, hk0, hk1, hpb⟩ : ∃ p : List UInt8, 65534 + n % 5 = (p.length : Int) ∧ 65534 ≤ p.length ∧ p.length ≤ 65538 ∧ bys p = List.replicate p.length (.int .u8 0) :=
    ⟨List.replicate (65534 + n % 5).toNat 0, by rw [List.length_replicate]; omega, by rw [List.length_replicate]; omega, by rw [List.length_replicate]; omega, by simp [bys, byv]⟩
  have hmk := fun W => run_make_nat (P := Try.prog) 22 5 i0 (.int .u8 0) Try.underlying22 hi hz0 hz1 rfl .i64 .i64 p.length (by rw [hz2]; omega) (by omega) W
  have hop := opened_head p.length hk1 hk0
  have hof := opened_framed p []
  rw [List.append_nil] at hof
  obtain ⟨r, hr⟩ : ∃ r, framed p = r := ⟨_, rfl⟩
  have hr0 : [] ++ framed p = r := hr
  have hrl : r.length = 8 + p.length := by rw [← hr, framed_len]
  have hqr : [] ++ putU p.length 4 = putU p.length 4 := rfl
  obtain ⟨q, hq⟩ : ∃ q, putU p.length 4 = q := ⟨_, rfl⟩
  have hql : q.length = 4 := by rw [← hq, putU_len]
  rw [hq] at hop
  have hqr : [] ++ putU p.length 4 = q := hq
  rw [hr] at hof
  replace hq := Lib.hid hq
  replace hr := Lib.hid hr
  replace hqr := Lib.hid hqr
  replace hr0 := Lib.hid hr0
  replace hrl := Lib.hid hrl
  replace hop := Lib.hid hop
  replace hof := Lib.hid hof
  replace hpb := Lib.hid hpb
  go_wp2_with fail
  have hrd : Reads (w1.alloc (.cells (Array.replicate p.length (.int .u8 0)) 5)) w1.heap.size.succ 1 (some ⟨w1.heap.size, 0, none⟩) p.length (bys p) := (Reads.lit w1 _ _ _ p.length (bys p) (by rw [hpb.out]; simp) (by simp [bys])).more (by simp)
  have hb2 := hb1.alloc hb1.size (.cells (Array.replicate p.length (.int .u8 0)) 5)
  have hs2 : (w1.alloc (.cells (Array.replicate p.length (.int .u8 0)) 5)).heap.size = w1.heap.size.succ := by simp
  rw [← hs2] at hrd
  have hsz : w1.heap.size ≤ (w1.alloc (.cells (Array.replicate p.length (.int .u8 0)) 5)).heap.size := by omega
  generalize w1.alloc (.cells (Array.replicate p.length (.int .u8 0)) 5) = w2 at hrd hb2 hs2 hsz ⊢
  clear hmk
  by_cases hbig : 65536 < p.length
  · refine (wrap_big hbig (by omega)).mono ?_
    rintro e w3 ⟨rfl, rfl⟩
    dsimp only
    go_wp2_with fail
    refine (ref_put4 (bs := []) Own.none_ (by simp) (by omega) hqr.out).mono ?_
    rintro e w4 ⟨A4, c4, rfl, ho4, hu4, hg4⟩
    dsimp only
    have hgr4 : ∀ k, bOf A4 = some k → w2.heap.size ≤ k := by
      rcases hg4 with h | h
      · intro k hk; rw [h] at hk; cases hk
      · exact h
    have hb4' : Below w2.heap.size w2 w4 := hu4.below (Nat.le_refl _) (fun k _ h => by cases h)
    have hb4 := below_then hb4' hb2
    obtain ⟨A5, c5, w5, hrun, ho5, hg5, hat5⟩ := run_append_zeros (P := Try.prog) (m := 20) 22 3 22 5 i0 (.int .u8 0) .i64 .i64 Try.underlying22 Try.underlying3 hi hz0 hz1 hz2 rfl rfl ho4 (by decide) (by unfold maxLen; omega) (by omega)
    have hb5' : Below w2.heap.size w2 w5 := hb4'.grown hg5 hb4'.size hgr4
    have hb5 := below_then hb5' hb2
    rw [show bys q ++ List.replicate 20 (Value.int .u8 0) = bys (q ++ List.replicate 20 0) from by simp [bys, byv], show q.length + 20 = (q ++ List.replicate 20 (0 : UInt8)).length from by simp] at ho5
    go_wp2_with (at_builtin; refine Lib.wpList_append_run _ rfl _ _ _ _ rfl _ _ rfl rfl _ _ hrun ?_)
    clear hrun hat5
    rw [show (24 : Nat) = (q ++ List.replicate 20 (0 : UInt8)).length from by simp [hql]]
    have hoo := open_walk ho5.reads_ ho5.le_cap (by simp; omega)
    rw [hop.out] at hoo
    refine hoo.mono ?_
    clear hoo
    rintro e w6 ⟨A6, c6, rfl, ho6, hb6', hg6⟩
    dsimp only
    have hb6 := below_then hb6' hb5
    rw [if_pos hbig]
    go_wp2_with fail
    go_ret
    exact ⟨rfl, hb6⟩
  · refine (wrap_walk (bs := []) Reads.none_ hrd (by simp) (by omega) hr0.out).mono ?_
    rintro e w3 ⟨A3, c3, rfl, ho3, hb3', hg3⟩
    dsimp only
    have hb3 := below_then hb3' hb2
    go_wp2_with fail
    refine (ref_put4 (bs := []) Own.none_ (by simp) (by omega) hqr.out).mono ?_
    rintro e w4 ⟨A4, c4, rfl, ho4, hu4, hg4⟩
    dsimp only
    have hgr4 : ∀ k, bOf A4 = some k → w3.heap.size ≤ k := by
      rcases hg4 with h | h
      · intro k hk; rw [h] at hk; cases hk
      · exact h
    have hb4' : Below w3.heap.size w3 w4 := hu4.below (Nat.le_refl _) (fun k _ h => by cases h)
    have hb4 := below_then hb4' hb3
    obtain ⟨A5, c5, w5, hrun, ho5, hg5, hat5⟩ := run_append_zeros (P := Try.prog) (m := 20) 22 3 22 5 i0 (.int .u8 0) .i64 .i64 Try.underlying22 Try.underlying3 hi hz0 hz1 hz2 rfl rfl ho4 (by decide) (by unfold maxLen; omega) (by omega)
    have hb5' : Below w3.heap.size w3 w5 := hb4'.grown hg5 hb4'.size hgr4
    have hb5 := below_then hb5' hb3
    rw [show bys q ++ List.replicate 20 (Value.int .u8 0) = bys (q ++ List.replicate 20 0) from by simp [bys, byv], show q.length + 20 = (q ++ List.replicate 20 (0 : UInt8)).length from by simp] at ho5
    go_wp2_with (at_builtin; refine Lib.wpList_append_run _ rfl _ _ _ _ rfl _ _ rfl rfl _ _ hrun ?_)
    clear hrun hat5
    rw [show (24 : Nat) = (q ++ List.replicate 20 (0 : UInt8)).length from by simp [hql]]
    have hoo := open_walk ho5.reads_ ho5.le_cap (by simp; omega)
    rw [hop.out] at hoo
    refine hoo.mono ?_
    clear hoo
    rintro e w6 ⟨A6, c6, rfl, ho6, hb6', hg6⟩
    dsimp only
    have hb6 := below_then hb6' hb5
    rw [if_neg hbig]
    go_wp2_with fail
    have hb36 := below_then hb6' hb5'
    have ho3' := ho3.below hb36 (Nat.le_refl _)
    have hoo := open_walk ho3'.reads_ ho3'.le_cap (by rw [hrl.out]; omega)
    rw [hof.out (by omega)] at hoo
    refine hoo.mono ?_
    clear hoo
    rintro e w7 ⟨A7, c7, rfl, ho7, hb7', hg7⟩
    dsimp only
    have hb7 := below_then hb7' hb6
    have e8 : (((8 + p.length : Nat) : Int) == (p.length : Int) + 8) = true := by rw [beq_iff_eq]; omega
    go_wp2_with fail
    go_ret
    exact ⟨rfl, hb7⟩
end Go.Proofs.Ytphbiglkkibnfaa
