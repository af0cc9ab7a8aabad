/- The chapter's example, and WatchTimes. -/
import Derived.Test.YteebefkojbdfjaaWatchTick
import Derived.Test.YteebefkojbdfjaaWatchPick
namespace Go.Proofs.Yteebefkojbdfjaa
open Go.RowKit

def SaysTrue (w : World) (e : Ending) (w' : World) : Prop := e = .returned (.bool true) ∧ Below w.heap.size w w'

/-- A watch of the law's own. -/
structure WatchIn (w0 w : World) (T : TypeId) (p q me : Nat) (ages : List Nat) (ticks : Nat) : Prop where
  at_ : WatchAt w T p q me ages ticks
  hp : w0.heap.size ≤ p
  hq : w0.heap.size ≤ q
  bel : Below w0.heap.size w0 w

section
variable {w0 w w' : World} {T : TypeId} {p q me ticks : Nat} {ages : List Nat}
theorem WatchIn.below (h : WatchIn w0 w T p q me ages ticks) (hb : Below w.heap.size w w') : WatchIn w0 w' T p q me ages ticks :=
  ⟨h.at_.below hb (Nat.le_refl _), h.hp, h.hq, h.bel.trans (hb.mono h.bel.size)⟩
theorem WatchIn.own {ages' : List Nat} {ticks' : Nat} (h : WatchIn w0 w T p q me ages ticks) (h' : WatchAt w' T p q me ages' ticks') (hu : Upd (fun x => x = p ∨ x = q) w w') : WatchIn w0 w' T p q me ages' ticks' :=
  ⟨h', h.hp, h.hq, h.bel.trans (hu.below h.bel.size (by have h1 := h.hp; have h2 := h.hq; rintro k hk (rfl | rfl) <;> omega))⟩
theorem WatchIn.far {S : Nat → Prop} (h : WatchIn w0 w T p q me ages ticks) (hu : Upd S w w') (hS : ∀ k, S k → w0.heap.size ≤ k ∧ k ≠ p ∧ k ≠ q) : WatchIn w0 w' T p q me ages ticks :=
  ⟨h.at_.upd hu (fun e => (hS p e).2.1 rfl) (fun e => (hS q e).2.2 rfl), h.hp, h.hq, h.bel.trans (hu.below h.bel.size fun k hk e => by have := (hS k e).1; omega)⟩

def NewIn (w0 : World) (T : TypeId) (s n : Int) (e : Ending) (w' : World) : Prop := ∃ p q, e = .returned (.pointer (some ⟨p, 0, none⟩)) ∧ WatchIn w0 w' T p q (selfOf s (nn n)) (List.replicate (nn n) 0) 0
def TickIn (w0 : World) (T : TypeId) (p q me ticks : Nat) (ages : List Nat) (nt : Nat) (e : Ending) (w' : World) : Prop := e = .returned (.bool (decide ((ticks + 1) % 3 = 0))) ∧ WatchIn w0 w' T p q me (up me ages) nt
def HeardIn (w0 : World) (T : TypeId) (p q me ticks : Nat) (ages : List Nat) (k : Int) (e : Ending) (w' : World) : Prop := e = .returned (.bool (heardB me ages k)) ∧ WatchIn w0 w' T p q me (heardL me ages k) ticks

theorem win_new (hb : Below w0.heap.size w0 w) (s n : Int) : Calls Try.prog 6 #[.int .i64 s, .int .i64 n] w (NewIn w0 44 s n) :=
  (watch_new s n w).mono fun _ _ ⟨p, q, he, h, hb2, hp, hq⟩ => ⟨p, q, he, h, Nat.le_trans hb.size hp, Nat.le_trans hb.size hq, hb.trans (hb2.mono hb.size)⟩
theorem win_tick (h : WatchIn w0 w 44 p q me ages ticks) (ht : ticks + 1 ≤ 1000000) : Calls Try.prog 8 #[.pointer (some ⟨p, 0, none⟩)] w (TickIn w0 44 p q me ticks ages ((ticks + 1) % 3)) :=
  (watch_tick h.at_ ht).mono fun _ _ ⟨he, hw, hu⟩ => ⟨he, h.own hw hu⟩
theorem win_heard (h : WatchIn w0 w 44 p q me ages ticks) (k : Int) : Calls Try.prog 10 #[.pointer (some ⟨p, 0, none⟩), .int .i64 k] w (HeardIn w0 44 p q me ticks ages k) :=
  (watch_heard h.at_ k).mono fun _ _ ⟨he, hw, hu⟩ => ⟨he, h.own hw (hu.mono fun _ _ e => .inr e)⟩
end

theorem ints_same' {w : World} {A B : Option Addr} {na nb ca cb BA BB : Nat} {xs ys : List Nat} (ha : Reads w BA 1 A na (ivs xs)) (hb : Reads w BB 1 B nb (ivs ys)) (hl : xs.length ≤ 1000000) (hl2 : ys.length ≤ 1000000) :
    Calls Try.prog 12 #[.slice A na ca, .slice B nb cb] w fun e w' => e = .returned (.bool (decide (xs = ys))) ∧ Below w.heap.size w w' := by
  obtain rfl : xs.length = na := by have := ha.len; rw [ivs_len] at this; omega
  obtain rfl : ys.length = nb := by have := hb.len; rw [ivs_len] at this; omega
  exact (ints_same ha hb hl hl2).mono fun _ _ ⟨he, n, hw⟩ => ⟨he, by rw [hw]; exact below_drewN (Below.refl _ _) n⟩

set_option maxHeartbeats 1000000 in
theorem known_true (w : World) : Calls Try.prog 5 #[] w (SaysTrue w) := by
  go_enter Try.func5, Try.ntmps5
  go_wp2_with fail
  refine (win_new (Below.refl _ _) 0 3).mono ?_
  rintro e w1 ⟨p, q, rfl, h1⟩
  replace h1 : WatchIn w w1 44 p q 0 [0, 0, 0] 0 := h1
  go_wp2_with fail
  go_loopw [2, 3] (fun d i wr => ∃ k : Nat, k ≤ 12 ∧ d = .int .i64 ((k / 3 : Nat) : Int) ∧ i = .int .i64 k ∧ WatchIn w wr 44 p q 0 [0, 0, k] (k % 3)) (fun _ i _ => 12 - (intOf i).toNat)
  case atStart => exact ⟨0, by omega, rfl, rfl, h1⟩
  case round =>
    obtain ⟨k, hk, rfl, rfl, hw⟩ := hrel
    clear h1
    by_cases hlt : k < 12
    · have e1 : up 0 [0, 0, k] = [0, 1, k + 1] := by simp [up, List.mapIdx_cons]; omega
      have e2 : heardL 0 [0, 1, k + 1] 1 = [0, 0, k + 1] := by simp [heardL, isOther]
      have e3 : (k % 3 + 1) % 3 = (k + 1) % 3 := by omega
      have ht := Lib.hid (win_tick hw (by omega))
      have E1 := Lib.hid e1; have E2 := Lib.hid e2; have E3 := Lib.hid e3; clear e1 e2 e3 hw
      by_cases hd : (k + 1) % 3 = 0
      · have hd' : decide ((k % 3 + 1) % 3 = 0) = true := by simp; omega
        have hdiv : k / 3 + 1 = (k + 1) / 3 := by omega
        have hd0 : (k / 3 : Nat) ≤ 4 := by omega
        have HV := Lib.hid hdiv; have HD := Lib.hid hd; have HD' := Lib.hid hd'; clear hdiv hd hd'
        generalize hk3 : k / 3 = k3 at *
        have HK3 := Lib.hid hk3; clear hk3
        go_wp2_with fail
        refine ht.out.mono ?_
        rintro e w2 ⟨rfl, hw2⟩
        rw [E1.out, E3.out] at hw2
        rw [HD'.out]
        go_wp2_with fail
        refine (win_heard hw2 1).mono ?_
        rintro e w3 ⟨rfl, hw3⟩
        rw [E2.out] at hw3
        clear hw2
        go_wp2_with fail
        go_roundw
        case rel => exact ⟨k + 1, by omega, by rw [← HV.out]; go_num, by go_num, hw3⟩
        case measure => simp [intOf]; omega
      · have hd' : decide ((k % 3 + 1) % 3 = 0) = false := by simp; omega
        have hdiv : k / 3 = (k + 1) / 3 := by omega
        have HV := Lib.hid hdiv; have HD := Lib.hid hd; have HD' := Lib.hid hd'; clear hdiv hd hd'
        generalize hk3 : k / 3 = k3 at *
        have HK3 := Lib.hid hk3; clear hk3
        go_wp2_with fail
        refine ht.out.mono ?_
        rintro e w2 ⟨rfl, hw2⟩
        rw [E1.out, E3.out] at hw2
        rw [HD'.out]
        go_wp2_with fail
        refine (win_heard hw2 1).mono ?_
        rintro e w3 ⟨rfl, hw3⟩
        rw [E2.out] at hw3
        clear hw2
        go_wp2_with fail
        go_roundw
        case rel => exact ⟨k + 1, by omega, by rw [← HV.out], by go_num, hw3⟩
        case measure => simp [intOf]; omega
    · obtain rfl : k = 12 := by omega
      go_wp2_with fail
      refine (watch_age hw.at_ 2).mono ?_
      rintro e w2 ⟨rfl, rfl⟩
      go_wp2_with fail
      refine (watch_suspects hw.at_).mono ?_
      rintro e w3 ⟨A3, c3, rfl, ho3, hb3⟩
      have hw3 := hw.below hb3
      replace ho3 : Own w3 3 1 A3 1 c3 (ivs [2]) := ho3
      clear hw
      go_wp2_with fail
      refine (ints_same' (xs := [2]) (ys := [2]) (ho3.alloc _).reads_ (Reads.lit w3 _ _ _ 1 _ rfl rfl) (by decide) (by decide)).mono ?_
      rintro e w4 ⟨rfl, hb4⟩
      have hw4 := hw3.below (((Below.refl _ _).alloc (Nat.le_refl _) _).trans (hb4.mono (by simp)))
      clear hw3 ho3 hb4 hb3
      go_wp2_with fail
      refine (watch_alive hw4.at_).mono ?_
      rintro e w5 ⟨A5, c5, rfl, ho5, hb5⟩
      have hw5 := hw4.below hb5
      replace ho5 : Own w5 3 1 A5 2 c5 (ivs [0, 1]) := ho5
      clear hw4
      go_wp2_with fail
      refine (ints_same' (xs := [0, 1]) (ys := [0, 1]) (ho5.alloc _).reads_ (Reads.lit w5 _ _ _ 2 _ rfl rfl) (by decide) (by decide)).mono ?_
      rintro e w6 ⟨rfl, hb6⟩
      have hw6 := hw5.below (((Below.refl _ _).alloc (Nat.le_refl _) _).trans (hb6.mono (by simp)))
      clear hw5 ho5 hb6 hb5
      go_wp2_with fail
      refine (win_heard hw6 2).mono ?_
      rintro e w7 ⟨rfl, hw7⟩
      replace hw7 : WatchIn w w7 44 p q 0 [0, 0, 0] 0 := hw7
      clear hw6
      go_wp2_with fail
      refine (win_heard hw7 0).mono ?_
      rintro e w8 ⟨rfl, hw8⟩
      go_wp2_with fail
      go_ret
      exact ⟨rfl, hw8.bel⟩
end Go.Proofs.Yteebefkojbdfjaa
