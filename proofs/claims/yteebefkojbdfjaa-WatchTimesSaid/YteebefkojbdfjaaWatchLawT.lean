/- WatchTimes' walk. -/
import Derived.Test.YteebefkojbdfjaaWatchTimes
namespace Go.Proofs.Yteebefkojbdfjaa
open Go.RowKit

def timesL (k x i a : Nat) : List Nat := (List.range k).map fun j => if j = 0 then 0 else if j = x then a else i
theorem timesL_len (k x i a : Nat) : (timesL k x i a).length = k := by simp [timesL]
theorem timesL_at (k x i a j : Nat) (hj : j < k) : (timesL k x i a).getD j 0 = if j = 0 then 0 else if j = x then a else i := by
  simp [timesL, List.getD, hj]
theorem timesL_zero (k x : Nat) : List.replicate k 0 = timesL k x 0 0 := by
  apply List.ext_getElem
  · simp [timesL]
  · intro j h1 h2
    simp [timesL]
theorem timesL_up (k x i a : Nat) (hi : i ≤ 1000) (ha : a ≤ 1000) : up 0 (timesL k x i a) = timesL k x (i + 1) (a + 1) := by
  apply List.ext_getElem
  · simp [timesL, up]
  · intro j h1 h2
    simp only [timesL, up, List.getElem_mapIdx, List.getElem_map, List.getElem_range]
    by_cases h : j = 0
    · simp [h]
    · by_cases h' : j = x
      · rw [if_pos (by omega), if_neg h, if_pos h', if_neg h, if_pos h']; omega
      · rw [if_pos (by omega), if_neg h, if_neg h', if_neg h, if_neg h']; omega
theorem timesL_heard (k x i a : Nat) (hx : 0 < x) (hk : x < k) : heardL 0 (timesL k x i a) (x : Int) = timesL k x i 0 := by
  have ho : isOther 0 (timesL k x i a).length (x : Int) = true := by simp [isOther, timesL_len]; omega
  unfold heardL
  rw [if_pos ho]
  apply List.ext_getElem
  · simp [timesL]
  · intro j h1 h2
    simp only [timesL, List.getElem_set, List.getElem_map, List.getElem_range, Int.toNat_natCast]
    by_cases h : x = j
    · subst h; simp
    · have : ¬ j = x := fun e => h e.symm
      simp [h, this]
theorem timesL_was (k x i a : Nat) (hx : 0 < x) (hk : x < k) : heardB 0 (timesL k x i a) (x : Int) = decide (12 ≤ a) := by
  have ho : isOther 0 (timesL k x i a).length (x : Int) = true := by simp [isOther, timesL_len]; omega
  unfold heardB
  rw [ho, Int.toNat_natCast, timesL_at _ _ _ _ _ hk, if_neg (by omega), if_pos rfl]
  rfl
theorem timesL_age (k x i a : Nat) (hx : 0 < x) (hk : x < k) : ageOf 0 (timesL k x i a) (x : Int) = a ∧ ageIs (timesL k x i a) (x : Int) = true := by
  refine ⟨?_, by simp [ageIs, timesL_len]; omega⟩
  unfold ageOf
  rw [timesL_len, if_pos (by omega), Int.toNat_natCast, timesL_at _ _ _ _ _ hk, if_neg (by omega), if_pos rfl]
theorem timesL_in (k x i a : Nat) (hx : 0 < x) (hk : x < k) : (x ∈ pick true (timesL k x i a)) ↔ 12 ≤ a := by
  unfold pick pickTo
  rw [List.mem_filter, List.mem_range, timesL_len, timesL_at _ _ _ _ _ hk, if_neg (by omega), if_pos rfl]
  simp [hk]
theorem pick_both (l : List Nat) : (pick true l).length + (pick false l).length = l.length := by
  have h : ∀ k, (pickTo true l k).length + (pickTo false l k).length = k := by
    intro k
    induction k with
    | zero => simp [pickTo]
    | succ k ih =>
      rw [pickTo_succ, pickTo_succ, List.length_append, List.length_append]
      by_cases h : 12 ≤ l.getD k 0
      · simp only [h, decide_true, beq_self_eq_true, if_true, List.length_singleton]
        simp; omega
      · simp only [h, decide_false]
        simp; omega
  exact h l.length
theorem nn_small (a : Nat) (h : a ≤ 5) : nn ((a : Int) + 2) = a + 2 := by unfold nn; split <;> (try split) <;> omega

set_option maxRecDepth 100000 in
set_option maxHeartbeats 2000000 in
theorem times_walk (n node ticks heard : Int) (w : World) (hn : 0 ≤ n ∧ n ≤ 255) (hd : 0 ≤ node ∧ node ≤ 255) (ht : 0 ≤ ticks ∧ ticks ≤ 255) (hh : 0 ≤ heard ∧ heard ≤ 255) :
    Calls Try.prog 4 #[.int .u8 n, .int .u8 node, .int .u8 ticks, .int .u8 heard] w (SaysTrue w) := by
  obtain ⟨a, ha, ha5⟩ : ∃ a : Nat, n % 6 = a ∧ a ≤ 5 := ⟨(n % 6).toNat, by omega, by omega⟩
  obtain ⟨b, hb, hba⟩ : ∃ b : Nat, node % ((a : Int) + 2 - 1) = b ∧ b ≤ a := ⟨(node % ((a : Int) + 2 - 1)).toNat, by have := Int.emod_nonneg node (show ((a : Int) + 2 - 1) ≠ 0 by omega); omega, by have := Int.emod_lt_of_pos node (show (0 : Int) < (a : Int) + 2 - 1 by omega); omega⟩
  obtain ⟨t, htt, ht39⟩ : ∃ t : Nat, ticks % 40 = t ∧ t ≤ 39 := ⟨(ticks % 40).toNat, by omega, by omega⟩
  obtain ⟨h, hht, hh39⟩ : ∃ h : Nat, heard % 40 = h ∧ h ≤ 39 := ⟨(heard % 40).toNat, by omega, by omega⟩
  go_enter Try.func4, Try.ntmps4
  go_wp2_with fail
  refine (known_true _).mono ?_
  rintro e w1 ⟨rfl, hb1⟩
  go_wp2_with fail
  refine (win_new hb1 0 ((a : Int) + 2)).mono ?_
  rintro e w2 ⟨p, q, rfl, hw2⟩
  have hk2 : WatchIn w w2 44 p q 0 (timesL (a + 2) (b + 1) 0 0) 0 := by
    rw [nn_small a ha5, timesL_zero (a + 2) (b + 1)] at hw2
    exact hw2
  clear hw2 hb1
  go_wp2_with fail
  clear ha hb htt hht
  go_loopw [14, 15] (fun g i wr => ∃ k m : Nat, k ≤ t ∧ m ≤ k ∧ g = .int .i64 m ∧ i = .int .i64 k ∧ WatchIn w wr 44 p q 0 (timesL (a + 2) (b + 1) k m) (k % 3)) (fun _ i _ => t - (intOf i).toNat)
  case atStart => exact ⟨0, 0, by omega, by omega, rfl, rfl, hk2⟩
  case round =>
    obtain ⟨k, m, hk, hm, rfl, rfl, hw⟩ := hrel
    clear hk2
    by_cases hlt : k < t
    · have htick := Lib.hid (win_tick hw (by omega))
      have e1 := Lib.hid (timesL_up (a + 2) (b + 1) k m (by omega) (by omega))
      have e3 : (k % 3 + 1) % 3 = (k + 1) % 3 := by omega
      have E3 := Lib.hid e3; clear hw e3
      go_wp2_with fail
      refine htick.out.mono ?_
      rintro e w3 ⟨rfl, hw3⟩
      rw [e1.out, E3.out] at hw3
      clear htick
      by_cases hkh : k = h
      · have hkh' : ((k : Int) == (h : Int)) = true := by simp [hkh]
        have HKH := Lib.hid hkh; clear hkh
        have hwas := timesL_was (a + 2) (b + 1) (k + 1) (m + 1) (by omega) (by omega)
        have hnow := timesL_heard (a + 2) (b + 1) (k + 1) (m + 1) (by omega) (by omega)
        have HW := Lib.hid hwas; have HN := Lib.hid hnow; clear hwas hnow
        go_wp2_with fail
        have hcall := win_heard hw3 ((b + 1 : Nat) : Int)
        rw [show ((b + 1 : Nat) : Int) = (b : Int) + 1 from by omega] at hcall
        refine hcall.mono ?_
        rintro e w4 ⟨rfl, hw4⟩
        rw [show (b : Int) + 1 = ((b + 1 : Nat) : Int) from by omega, HN.out] at hw4
        rw [show (b : Int) + 1 = ((b + 1 : Nat) : Int) from by omega, HW.out]
        have hw5 := hw4
        clear hw4 hw3 hcall
        by_cases h12 : 12 ≤ m + 1
        · have h12i : (12 : Int) ≤ (m : Int) + 1 := by omega
          rw [show decide (12 ≤ m + 1) = true from decide_eq_true h12]
          go_wp2_with fail
          go_roundw
          case rel => first | exact ⟨k + 1, 0, by omega, by omega, by go_num, by go_num, hw5⟩ | ((repeat apply Exists.intro); exact ⟨⟨k + 1, 0, by omega, by omega, rfl, by go_num, hw5⟩, rfl⟩)
          case measure => simp [intOf]; omega
        · have h12i : (m : Int) + 1 < 12 := by omega
          rw [show decide (12 ≤ m + 1) = false from decide_eq_false h12]
          go_wp2_with fail
          go_roundw
          case rel => first | exact ⟨k + 1, 0, by omega, by omega, by go_num, by go_num, hw5⟩ | ((repeat apply Exists.intro); exact ⟨⟨k + 1, 0, by omega, by omega, rfl, by go_num, hw5⟩, rfl⟩)
          case measure => simp [intOf]; omega
      · have hkh' : ((k : Int) == (h : Int)) = false := by rw [beq_eq_false_iff_ne]; omega
        go_wp2_with fail
        go_roundw
        case rel => first | exact ⟨k + 1, m + 1, by omega, by omega, by go_num, by go_num, hw3⟩ | ((repeat apply Exists.intro); exact ⟨⟨k + 1, m + 1, by omega, by omega, by go_num, by go_num, hw3⟩, rfl⟩)
        case measure => simp [intOf]; omega
    · obtain rfl : k = t := by omega
      obtain ⟨hag, hai⟩ := timesL_age (a + 2) (b + 1) k m (by omega) (by omega)
      have hage := watch_age hw.at_ ((b + 1 : Nat) : Int)
      rw [hag, hai, show ((b + 1 : Nat) : Int) = (b : Int) + 1 from by omega] at hage
      have HA := Lib.hid hage; clear hag hai hage
      have hin := timesL_in (a + 2) (b + 1) k m (by omega) (by omega)
      have hboth := pick_both (timesL (a + 2) (b + 1) k m)
      rw [timesL_len] at hboth
      go_wp2_with fail
      refine HA.out.mono ?_
      rintro e w3 ⟨rfl, rfl⟩
      go_wp2_with fail
      refine (watch_suspects hw.at_).mono ?_
      rintro e w4 ⟨A4, c4, rfl, ho4, hb4⟩
      have hw4 := hw.below hb4
      clear hw
      have hreads := ho4.reads_
      generalize hS : pick true (timesL (a + 2) (b + 1) k m) = ss at *
      have HS := Lib.hid hS; clear hS
      have hsl : ss.length ≤ a + 2 := by omega
      have HIN := Lib.hid hin; have HBO := Lib.hid hboth; clear hin hboth
      go_wp2_with fail
      go_loop [19, 20] (fun g i => ∃ j : Nat, j ≤ ss.length ∧ g = .bool (decide ((b + 1) ∈ ss.take j)) ∧ i = .int .i64 j) (fun _ i => ss.length - (intOf i).toNat)
      case atStart => exact ⟨0, Nat.zero_le _, by simp, rfl⟩
      case round =>
        obtain ⟨j, hj, rfl, rfl⟩ := hrel
        by_cases hlt : j < ss.length
        · obtain ⟨ad, u, rfl, _, hu, hc⟩ := hreads.at_ hlt
          simp only [ivs, iv, List.getElem?_map, List.getElem?_eq_getElem hlt, Option.map_some, Option.some.injEq] at hu
          subst hu
          have htk : ss.take (j + 1) = ss.take j ++ [ss[j]] := by rw [List.take_succ_eq_append_getElem hlt]
          have hmem : (b + 1 ∈ ss.take (j + 1)) ↔ (b + 1 ∈ ss.take j ∨ b + 1 = ss[j]) := by rw [htk, List.mem_append, List.mem_singleton]
          generalize ss[j] = z at *
          have HM := Lib.hid hmem; clear hmem htk hreads ho4
          by_cases hin : b + 1 ∈ ss.take j
          · rw [decide_eq_true hin]
            have HI := Lib.hid hin; clear hin
            go_wp2
            go_round
            case rel => exact ⟨j + 1, by omega, by rw [decide_eq_true (HM.out.2 (.inl HI.out))], by go_num⟩
            case measure => simp [intOf]; omega
          · rw [decide_eq_false hin]
            have HI := Lib.hid hin; clear hin
            by_cases hz : z = b + 1
            · have hz' : ((z : Int) == (b : Int) + 1) = true := by rw [beq_iff_eq]; omega
              have HZ := Lib.hid hz; clear hz
              go_wp2
              go_round
              case rel => exact ⟨j + 1, by omega, by rw [decide_eq_true (HM.out.2 (.inr HZ.out.symm))], by go_num⟩
              case measure => simp [intOf]; omega
            · have hz' : ((z : Int) == (b : Int) + 1) = false := by rw [beq_eq_false_iff_ne]; omega
              have hno : ¬ (b + 1 ∈ ss.take (j + 1)) := fun e => by
                rcases HM.out.1 e with h | h
                · exact HI.out h
                · exact hz h.symm
              have HNO := Lib.hid hno; clear hno hz
              go_wp2
              go_round
              case rel => exact ⟨j + 1, by omega, by rw [decide_eq_false HNO.out], by go_num⟩
              case measure => simp [intOf]; omega
        · obtain rfl : j = ss.length := by omega
          rw [List.take_of_length_le (Nat.le_refl _)]
          have hal := Lib.hid (watch_alive hw4.at_)
          have hbel := Lib.hid hw4.bel
          have hbl := HBO.out
          generalize hP : pick false (timesL (a + 2) (b + 1) k m) = pf at hal hbl
          have hsum : ((ss.length : Int) + (pf.length : Int) == (a : Int) + 2) = true := by rw [beq_iff_eq]; omega
          have hpl : pf.length ≤ a + 2 := by omega
          have HP := Lib.hid hP; clear hP hbl hreads ho4 hw4
          by_cases h12 : 12 ≤ m
          · rw [decide_eq_true (HIN.out.2 h12)]
            have h12i : (12 : Int) ≤ (m : Int) := by omega
            go_wp2_with fail
            refine hal.out.mono ?_
            rintro e w5 ⟨A5, c5, rfl, _, hb5⟩
            go_wp2
            go_ret
            exact ⟨rfl, hbel.out.trans (hb5.mono hbel.out.size)⟩
          · rw [decide_eq_false (fun e => h12 (HIN.out.1 e))]
            have h12i : decide ((12 : Int) ≤ (m : Int)) = false := decide_eq_false (by omega)
            go_wp2_with fail
            refine hal.out.mono ?_
            rintro e w5 ⟨A5, c5, rfl, _, hb5⟩
            go_wp2
            go_ret
            exact ⟨rfl, hbel.out.trans (hb5.mono hbel.out.size)⟩
end Go.Proofs.Yteebefkojbdfjaa
