/- Ids: Compare, Or, Less, IdLess. -/
import Derived.Test.YtokcmnenfgbdoaaDoorRows
import Derived.Test.YtokcmnenfgbdoaaDoorRegion
import Derived.Test.YtokcmnenfgbdoaaDoorFrame
import Derived.Test.YtokcmnenfgbdoaaDoorMore
namespace Go.Proofs.YtokcmnenfgbdoaaDoor
open Go.RowKit

def cmpI (x y : Int) : Int := if x < y then -1 else if y < x then 1 else 0
theorem cmpI_lt {x y : Int} (h : x < y) : cmpI x y = -1 := if_pos h
theorem cmpI_gt {x y : Int} (h : y < x) : cmpI x y = 1 := by unfold cmpI; rw [if_neg (by omega), if_pos h]
theorem cmpI_eq (x : Int) : cmpI x x = 0 := by unfold cmpI; rw [if_neg (by omega), if_neg (by omega)]
/-- Of three numbers the first that is none nought. -/
def orI (a b c : Int) : Int := if a ≠ 0 then a else if b ≠ 0 then b else c
def idLt (c s n c' s' n' : Int) : Bool := if c = c' then (if s = s' then decide (n < n') else decide (s < s')) else decide (c < c')
theorem orI_neg (b c : Int) : orI (-1) b c = -1 := rfl
theorem orI_pos (b c : Int) : orI 1 b c = 1 := rfl
theorem orI_zero (b c : Int) : orI 0 b c = if b ≠ 0 then b else c := rfl
theorem orI_lt (c s n c' s' n' : Int) : decide (orI (cmpI c c') (cmpI s s') (cmpI n n') < 0) = idLt c s n c' s' n' := by
  unfold idLt
  rcases (show c < c' ∨ c' < c ∨ c = c' by omega) with h | h | rfl
  · rw [cmpI_lt h, orI_neg, if_neg (by omega), decide_eq_true h]; rfl
  · rw [cmpI_gt h, orI_pos, if_neg (by omega), decide_eq_false (show ¬ c < c' by omega)]; rfl
  rw [cmpI_eq, orI_zero, if_pos rfl]
  rcases (show s < s' ∨ s' < s ∨ s = s' by omega) with h | h | rfl
  · rw [cmpI_lt h, if_neg (show ¬ s = s' by omega), decide_eq_true h]; rfl
  · rw [cmpI_gt h, if_neg (show ¬ s = s' by omega), decide_eq_false (show ¬ s < s' by omega)]; rfl
  rw [cmpI_eq, if_neg (by omega), if_pos rfl]
  rcases (show n < n' ∨ n' < n ∨ n = n' by omega) with h | h | rfl
  · rw [cmpI_lt h, decide_eq_true h]; rfl
  · rw [cmpI_gt h, decide_eq_false (show ¬ n < n' by omega)]; rfl
  · rw [cmpI_eq, decide_eq_false (show ¬ n < n by omega)]; rfl

theorem compare32 (x y : Int) (w : World) : Calls Tryd.prog 18 #[.int .u32 x, .int .u32 y] w (fun e w' => e = .returned (.int .i64 (cmpI x y)) ∧ Below w.heap.size w w') := by
  rcases (show x < y ∨ y < x ∨ x = y by omega) with h | h | rfl
  · rw [cmpI_lt h]
    go_enter Tryd.func18, Tryd.ntmps18
    go_wp2
    go_ret
    exact ⟨rfl, Below.refl _ _⟩
  · rw [cmpI_gt h]
    go_enter Tryd.func18, Tryd.ntmps18
    go_wp2
    go_ret
    exact ⟨rfl, Below.refl _ _⟩
  · rw [cmpI_eq]
    go_enter Tryd.func18, Tryd.ntmps18
    go_wp2
    go_ret
    exact ⟨rfl, Below.refl _ _⟩
theorem compare16 (x y : Int) (w : World) : Calls Tryd.prog 19 #[.int .u16 x, .int .u16 y] w (fun e w' => e = .returned (.int .i64 (cmpI x y)) ∧ Below w.heap.size w w') := by
  rcases (show x < y ∨ y < x ∨ x = y by omega) with h | h | rfl
  · rw [cmpI_lt h]
    go_enter Tryd.func19, Tryd.ntmps19
    go_wp2
    go_ret
    exact ⟨rfl, Below.refl _ _⟩
  · rw [cmpI_gt h]
    go_enter Tryd.func19, Tryd.ntmps19
    go_wp2
    go_ret
    exact ⟨rfl, Below.refl _ _⟩
  · rw [cmpI_eq]
    go_enter Tryd.func19, Tryd.ntmps19
    go_wp2
    go_ret
    exact ⟨rfl, Below.refl _ _⟩

theorem or_three (a b c : Int) (g : Nat) (w : World) (h0 : w.cell? ⟨g, 0, none⟩ = some (.int .i64 a)) (h1 : w.cell? ⟨g, 1, none⟩ = some (.int .i64 b)) (h2 : w.cell? ⟨g, 2, none⟩ = some (.int .i64 c)) (hg : g < w.heap.size) :
    Calls Tryd.prog 17 #[.slice (some ⟨g, 0, none⟩) 3 3] w (fun e w' => e = .returned (.int .i64 (orI a b c)) ∧ Below w.heap.size w w') := by
  obtain ⟨r, hr⟩ : ∃ r, orI a b c = r := ⟨_, rfl⟩
  rw [hr]
  replace hr := Lib.hid hr
  go_enter Tryd.func17, Tryd.ntmps17
  go_wp2_with fail
  go_loopw [8] (fun i wr => ∃ k : Nat, k ≤ 3 ∧ i = .int .i64 (k : Int) ∧ Below w.heap.size w wr ∧ Hid ((0 < k → a = 0) ∧ (1 < k → b = 0) ∧ (2 < k → c = 0))) (fun i _ => 3 - (intOf i).toNat)
  case atStart => exact ⟨0, by omega, rfl, Below.refl _ _, Lib.hid ⟨by omega, by omega, by omega⟩⟩
  case round =>
    rename_i hrel
    obtain ⟨k, hk3, rfl, hb, hz⟩ := hrel
    by_cases hk : k < 3
    · obtain ⟨v, hv, hvr, hvz⟩ : ∃ v : Int, w.cell? ⟨g, k, none⟩ = some (.int .i64 v) ∧ Hid (v ≠ 0 → v = r) ∧ Hid (v = 0 → (0 < k + 1 → a = 0) ∧ (1 < k + 1 → b = 0) ∧ (2 < k + 1 → c = 0)) := by
        obtain ⟨z0, z1, z2⟩ := hz.out
        have hr' := hr.out
        unfold orI at hr'
        rcases (show k = 0 ∨ k = 1 ∨ k = 2 by omega) with rfl | rfl | rfl
        · exact ⟨a, h0, Lib.hid (fun h => by rw [← hr', if_pos h]), Lib.hid (fun h => ⟨fun _ => h, by omega, by omega⟩)⟩
        · have := z0 (by omega)
          exact ⟨b, h1, Lib.hid (fun h => by rw [← hr', if_neg (by omega), if_pos h]), Lib.hid (fun h => ⟨fun _ => z0 (by omega), fun _ => h, by omega⟩)⟩
        · have := z0 (by omega)
          have := z1 (by omega)
          exact ⟨c, h2, Lib.hid (fun h => by rw [← hr', if_neg (by omega), if_neg (by omega)]), Lib.hid (fun h => ⟨fun _ => z0 (by omega), fun _ => z1 (by omega), fun _ => h⟩)⟩
      have hv' := (hb.cell (p := ⟨g, k, none⟩) hg).trans hv
      clear hz
      by_cases hvn : v = 0
      · have hn := Lib.hid (hvz.out hvn)
        subst hvn
        clear hvz hvr
        go_wp2_with fail
        go_roundw
        case rel => exact ⟨k + 1, by omega, by simp, by assumption, hn⟩
        case measure => simp [intOf]; omega
      · have hr2 := hvr.out hvn
        subst hr2
        clear hvz hvr
        go_wp2_with fail
        go_ret
        exact ⟨rfl, hb⟩
    · obtain rfl : k = 3 := by omega
      obtain ⟨z0, z1, z2⟩ := hz.out
      have hr' := hr.out
      unfold orI at hr'
      rw [if_neg (by have := z0 (by omega); omega), if_neg (by have := z1 (by omega); omega), z2 (by omega)] at hr'
      subst hr'
      clear hz z0 z1 z2 hr
      go_wp2_with fail
      go_ret
      exact ⟨rfl, hb⟩
end Go.Proofs.YtokcmnenfgbdoaaDoor
