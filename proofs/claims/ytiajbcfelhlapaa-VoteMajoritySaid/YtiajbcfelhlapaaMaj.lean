/- VoteMajority, the plain law: like replies as numbers; what the vote came to. -/
import Derived.Test.YtiajbcfelhlapaaVote7
import Derived.Maps.OwnOps
import Derived.Maps.Views
namespace Go.Proofs.Ytiajbcfelhlapaa
open Go.RowKit Go.Maps

theorem ref_need (nn : Int) (w : World) (h1 : 1 ≤ nn) (h7 : nn ≤ 7) : Calls Try.prog 18 #[.int .i64 nn] w fun e w' => e = .returned (.int .i64 (nn / 2 + 1)) ∧ w = w' := by
  have e1 : (if nn < 1 then 1 else nn) = nn := if_neg (by omega)
  have e2 : (if 7 < nn then 7 else nn) = nn := if_neg (by omega)
  have hq : Int.tdiv nn 2 = nn / 2 := Int.tdiv_eq_ediv_of_nonneg (by omega)
  go_enter Try.func18, Try.ntmps18
  go_wp2
  go_ret
  exact ⟨by simp [hq], rfl⟩

def rec1 (i : Int) : FR := ⟨0, 1, i, 0⟩
def recs (is : List Int) : List FR := is.map rec1
theorem recs_snoc (is : List Int) (x : Int) : recs is ++ [rec1 x] = recs (is ++ [x]) := by unfold recs; rw [List.map_append]; rfl
theorem cmpI_zero (a i : Int) : cmpI a i = 0 ↔ a = i := by
  unfold cmpI
  constructor
  · intro h
    by_cases h1 : a < i
    · rw [if_pos h1] at h; cases h
    · rw [if_neg h1] at h
      by_cases h2 : i < a
      · rw [if_pos h2] at h; cases h
      · omega
  · rintro rfl; rw [if_neg (by omega), if_neg (by omega)]
theorem alike_recs (a i : Int) : alikeF 0 1 a 0 1 i = decide (a = i) := by
  unfold alikeF ordF
  rw [if_pos rfl, if_pos rfl]
  simp only [decide_true, Bool.true_and]
  exact decide_eq_decide.2 (cmpI_zero a i)
theorem countL_recs (is : List Int) (i : Int) : countL (recs is) 0 1 i = is.count i := by
  unfold countL recs
  rw [List.countP_map, List.count]
  congr 1
  funext a
  show alikeF 0 1 a 0 1 i = (a == i)
  rw [alike_recs]
  by_cases h : a = i
  · subst h; simp
  · rw [decide_eq_false h, beq_eq_false_iff_ne.2 h]
theorem wins_recs (need : Int) (is : List Int) (i : Int) : wins need (recs is) (rec1 i) = decide (need ≤ (is.count i : Int)) := by
  unfold wins
  show decide (need ≤ (countL (recs is) 0 1 i : Int)) = _
  rw [countL_recs]

structure MInv (need : Int) (is : List Int) (D : Option FR) : Prop where
  no : D = none → ∀ i ∈ is, ¬ need ≤ (is.count i : Int)
  yes : ∀ y, D = some y → ∃ i, y = rec1 i ∧ i ∈ is ∧ need ≤ (is.count i : Int)
theorem MInv.nil (need : Int) : MInv need [] none := ⟨fun _ i h => by simp at h, fun y h => by cases h⟩
theorem MInv.step {nn : Int} {is : List Int} {D : Option FR} (h : MInv (needOf 1 nn) is D) (x : Int) : MInv (needOf 1 nn) (is ++ [x]) (nextD 1 nn D (recs (is ++ [x]))) := by
  cases D with
  | some y =>
    have e : nextD 1 nn (some y) (recs (is ++ [x])) = some y := rfl
    rw [e]
    refine ⟨fun h => (by cases h), fun y' hy => ?_⟩
    cases hy
    obtain ⟨i, rfl, hm, hc⟩ := h.yes y rfl
    exact ⟨i, rfl, List.mem_append_left _ hm, by rw [List.count_append]; omega⟩
  | none =>
    have e : nextD 1 nn none (recs (is ++ [x])) = (recs (is ++ [x])).find? (wins (needOf 1 nn) (recs (is ++ [x]))) := rfl
    rw [e]
    generalize is ++ [x] = l
    refine ⟨fun h i hi => ?_, fun y hy => ?_⟩
    · rw [List.find?_eq_none] at h
      have := h (rec1 i) (List.mem_map.2 ⟨i, hi, rfl⟩)
      rw [wins_recs] at this
      simpa using this
    · have hw := List.find?_some hy
      have hm := List.mem_of_find?_eq_some hy
      obtain ⟨i, hi, rfl⟩ := List.mem_map.1 hm
      rw [wins_recs] at hw
      exact ⟨i, rfl, hi, of_decide_eq_true hw⟩
theorem count_two (a b : Int) (hab : a ≠ b) : ∀ l : List Int, l.count a + l.count b ≤ l.length
  | [] => by simp
  | x :: l => by
    have ih := count_two a b hab l
    rw [List.count_cons, List.count_cons, List.length_cons]
    by_cases h1 : x = a
    · subst h1
      have : (x == b) = false := beq_eq_false_iff_ne.2 hab
      simp only [beq_self_eq_true, if_true, this, Bool.false_eq_true, if_false]
      omega
    · have h1' : (x == a) = false := beq_eq_false_iff_ne.2 h1
      simp only [h1', Bool.false_eq_true, if_false]
      split <;> omega
theorem MInv.top {nn : Int} {is : List Int} {D : Option FR} (h : MInv (needOf 1 nn) is D) (hn : 1 ≤ nn) (hl : (is.length : Int) = nn) (x : Int) (hx : nn / 2 + 1 ≤ (is.count x : Int)) : D = some (rec1 x) := by
  have hnd : needOf 1 nn = nn / 2 + 1 := rfl
  have hm : x ∈ is := List.count_pos_iff.1 (by omega)
  cases D with
  | none => exact absurd (by rw [hnd]; exact hx) (h.no rfl x hm)
  | some y =>
    obtain ⟨i, rfl, hi, hc⟩ := h.yes y rfl
    rw [hnd] at hc
    by_cases e : i = x
    · rw [e]
    · have := count_two i x e is
      omega
theorem MInv.none_ {nn : Int} {is : List Int} {D : Option FR} (h : MInv (needOf 1 nn) is D) (hr : ∀ i ∈ is, 0 ≤ i ∧ i < 3) (hx : ∀ x : Int, 0 ≤ x → x < 3 → ¬ nn / 2 + 1 ≤ (is.count x : Int)) : D = none := by
  cases D with
  | none => rfl
  | some y =>
    obtain ⟨i, rfl, hi, hc⟩ := h.yes y rfl
    exact absurd hc (hx i (hr i hi).1 (hr i hi).2)

/-- A map of counts. -/
def Counts (D : DataW Unit) (is : List Int) : Prop := IsMap D ∧ ∀ x : Int, D.atKey (.int .i64 x) (.lit (.int .i64 0)) = .lit (.int .i64 (is.count x : Int))
theorem Counts.nil : Counts (.map []) [] := ⟨isMap_empty, fun x => rfl⟩
theorem Counts.step {D : DataW Unit} {is : List Int} (h : Counts D is) (x : Int) {c : Int} (hc : c = (is.count x : Int) + 1) : Counts (D.put (.int .i64 x) (.lit (.int .i64 c))) (is ++ [x]) := by
  subst hc
  refine ⟨h.1.put _ _, fun y => ?_⟩
  by_cases e : y = x
  · subst e
    rw [atKey_put_same h.1 (show WideAt.IsKeyLit (.int .i64 y) from True.intro), List.count_append]
    simp
  · rw [atKey_put_other (by intro he; cases he; exact e rfl), h.2 y, List.count_append]
    have : [x].count y = 0 := List.count_eq_zero.2 (by simp; exact e)
    rw [this]; rfl
end Go.Proofs.Ytiajbcfelhlapaa
