/- Are two replies alike, whatever their values; what the program and the document tell. -/
import Derived.Test.YtiajbcfelhlapaaOrdR
namespace Go.Proofs.Ytiajbcfelhlapaa
open Go.RowKit

def alikeB (c1 s1 n1 e1 c2 s2 n2 e2 o : Int) : Bool := (decide (c1 = c2) && decide (s1 = s2) && decide (n1 = n2)) && decide (e1 = e2) && decide (o = 0)

set_option maxHeartbeats 1600000 in
theorem alike_val (c1 s1 n1 e1 k1 i1 c2 s2 n2 e2 k2 i2 : Int) (f1 f2 : Nat) (t1 t2 : ByteArray) (A1 A2 : Option Addr) (m1 d1 m2 d2 : Nat) (o : Int) (w : World)
    (hord : ∀ w2, Below w.heap.size w w2 → Calls Try.prog 26 #[.agg #[.int .i64 k1, .int .i64 i1, .float .f64 f1, .string t1, .slice A1 m1 d1], .agg #[.int .i64 k2, .int .i64 i2, .float .f64 f2, .string t2, .slice A2 m2 d2]] w2 (Says w2 (.int .i64 o))) :
    Calls Try.prog 10 #[.agg #[.int .u32 c1, .int .u32 s1, .int .u16 n1, .int .i64 e1, .int .i64 k1, .int .i64 i1, .float .f64 f1, .string t1, .slice A1 m1 d1], .agg #[.int .u32 c2, .int .u32 s2, .int .u16 n2, .int .i64 e2, .int .i64 k2, .int .i64 i2, .float .f64 f2, .string t2, .slice A2 m2 d2]] w (Says w (.bool (alikeB c1 s1 n1 e1 c2 s2 n2 e2 o))) := by
  have b1 := Blk.new w 32 #[.int .u32 c1, .int .u32 s1, .int .u16 n1, .int .i64 e1, .int .i64 k1, .int .i64 i1, .float .f64 f1, .string t1, .slice A1 m1 d1]
  have b1' := b1.alloc (.cells #[.int .u32 c2, .int .u32 s2, .int .u16 n2, .int .i64 e2, .int .i64 k2, .int .i64 i2, .float .f64 f2, .string t2, .slice A2 m2 d2] 32)
  have b2 := Blk.new (w.alloc (.cells #[.int .u32 c1, .int .u32 s1, .int .u16 n1, .int .i64 e1, .int .i64 k1, .int .i64 i1, .float .f64 f1, .string t1, .slice A1 m1 d1] 32)) 32 #[.int .u32 c2, .int .u32 s2, .int .u16 n2, .int .i64 e2, .int .i64 k2, .int .i64 i2, .float .f64 f2, .string t2, .slice A2 m2 d2]
  have hsz : (w.alloc (.cells #[.int .u32 c1, .int .u32 s1, .int .u16 n1, .int .i64 e1, .int .i64 k1, .int .i64 i1, .float .f64 f1, .string t1, .slice A1 m1 d1] 32)).heap.size = w.heap.size + 1 := by simp
  rw [hsz] at b2
  have hbl := ((Below.refl w.heap.size w).alloc (Nat.le_refl _) (.cells #[.int .u32 c1, .int .u32 s1, .int .u16 n1, .int .i64 e1, .int .i64 k1, .int .i64 i1, .float .f64 f1, .string t1, .slice A1 m1 d1] 32)).alloc (by simp) (.cells #[.int .u32 c2, .int .u32 s2, .int .u16 n2, .int .i64 e2, .int .i64 k2, .int .i64 i2, .float .f64 f2, .string t2, .slice A2 m2 d2] 32)
  obtain ⟨r, hr⟩ : ∃ r, alikeB c1 s1 n1 e1 c2 s2 n2 e2 o = r := ⟨_, rfl⟩
  rw [hr]
  unfold alikeB at hr
  replace hr := Lib.hid hr
  replace hord := Lib.hid hord
  clear b1 hsz
  by_cases hid : c1 = c2 ∧ s1 = s2 ∧ n1 = n2
  · obtain ⟨rfl, rfl, rfl⟩ := hid
    by_cases he : e1 = e2
    · subst he
      go_enter Try.func10, Try.ntmps10
      go_wp2_with fail
      refine (hord.out _ hbl).mono ?_
      rintro e w3 ⟨rfl, hb3⟩
      dsimp only
      have hfin := below_then hb3 hbl
      by_cases h0 : o = 0
      · have hr' : r = true := by rw [← hr.out]; simp [h0]
        subst h0 hr'
        go_wp2_with fail
        go_ret
        exact ⟨rfl, hfin⟩
      · have hr' : r = false := by rw [← hr.out]; simp [h0]
        have h0' : (o == 0) = false := beq_eq_false_iff_ne.2 h0
        subst hr'
        go_wp2_with fail
        go_ret
        exact ⟨rfl, hfin⟩
    · have hr' : r = false := by rw [← hr.out]; simp [he]
      have he' : (e1 == e2) = false := beq_eq_false_iff_ne.2 he
      subst hr'
      go_enter Try.func10, Try.ntmps10
      go_wp2_with fail
      go_ret
      exact ⟨rfl, hbl⟩
  · have hr' : r = false := by
      rw [← hr.out]
      have : (decide (c1 = c2) && decide (s1 = s2) && decide (n1 = n2)) = false := by
        cases h1 : decide (c1 = c2)
        · rfl
        · cases h2 : decide (s1 = s2)
          · rfl
          · cases h3 : decide (n1 = n2)
            · rfl
            · exact absurd ⟨of_decide_eq_true h1, of_decide_eq_true h2, of_decide_eq_true h3⟩ hid
      rw [this]; rfl
    have hid' : (c1 == c2 && (s1 == s2 && n1 == n2)) = false := by
      cases h : (c1 == c2 && (s1 == s2 && n1 == n2))
      · rfl
      · simp only [Bool.and_eq_true, beq_iff_eq] at h
        exact absurd ⟨h.1, h.2.1, h.2.2⟩ hid
    subst hr'
    go_enter Try.func10, Try.ntmps10
    go_wp2_with fail
    all_goals (go_ret; exact ⟨rfl, ((Below.refl w.heap.size w).alloc (Nat.le_refl _) _).alloc (by simp) _⟩)

set_option maxHeartbeats 1600000 in
theorem ref_alike_val (c1 s1 n1 e1 k1 i1 c2 s2 n2 e2 k2 i2 : Int) (f1 f2 : Nat) (t1 t2 : ByteArray) (A1 A2 : Option Addr) (m1 d1 m2 d2 : Nat) (o : Int) (w : World)
    (hord : ∀ w2, Below w.heap.size w w2 → Calls Try.prog 27 #[.agg #[.int .i64 k1, .int .i64 i1, .float .f64 f1, .string t1, .slice A1 m1 d1], .agg #[.int .i64 k2, .int .i64 i2, .float .f64 f2, .string t2, .slice A2 m2 d2]] w2 (Says w2 (.int .i64 o))) :
    Calls Try.prog 11 #[.agg #[.int .u32 c1, .int .u32 s1, .int .u16 n1, .int .i64 e1, .int .i64 k1, .int .i64 i1, .float .f64 f1, .string t1, .slice A1 m1 d1], .agg #[.int .u32 c2, .int .u32 s2, .int .u16 n2, .int .i64 e2, .int .i64 k2, .int .i64 i2, .float .f64 f2, .string t2, .slice A2 m2 d2]] w (Says w (.bool (alikeB c1 s1 n1 e1 c2 s2 n2 e2 o))) := by
  have b1 := Blk.new w 32 #[.int .u32 c1, .int .u32 s1, .int .u16 n1, .int .i64 e1, .int .i64 k1, .int .i64 i1, .float .f64 f1, .string t1, .slice A1 m1 d1]
  have b1' := b1.alloc (.cells #[.int .u32 c2, .int .u32 s2, .int .u16 n2, .int .i64 e2, .int .i64 k2, .int .i64 i2, .float .f64 f2, .string t2, .slice A2 m2 d2] 32)
  have b2 := Blk.new (w.alloc (.cells #[.int .u32 c1, .int .u32 s1, .int .u16 n1, .int .i64 e1, .int .i64 k1, .int .i64 i1, .float .f64 f1, .string t1, .slice A1 m1 d1] 32)) 32 #[.int .u32 c2, .int .u32 s2, .int .u16 n2, .int .i64 e2, .int .i64 k2, .int .i64 i2, .float .f64 f2, .string t2, .slice A2 m2 d2]
  have hsz : (w.alloc (.cells #[.int .u32 c1, .int .u32 s1, .int .u16 n1, .int .i64 e1, .int .i64 k1, .int .i64 i1, .float .f64 f1, .string t1, .slice A1 m1 d1] 32)).heap.size = w.heap.size + 1 := by simp
  rw [hsz] at b2
  have hbl := ((Below.refl w.heap.size w).alloc (Nat.le_refl _) (.cells #[.int .u32 c1, .int .u32 s1, .int .u16 n1, .int .i64 e1, .int .i64 k1, .int .i64 i1, .float .f64 f1, .string t1, .slice A1 m1 d1] 32)).alloc (by simp) (.cells #[.int .u32 c2, .int .u32 s2, .int .u16 n2, .int .i64 e2, .int .i64 k2, .int .i64 i2, .float .f64 f2, .string t2, .slice A2 m2 d2] 32)
  obtain ⟨r, hr⟩ : ∃ r, alikeB c1 s1 n1 e1 c2 s2 n2 e2 o = r := ⟨_, rfl⟩
  rw [hr]
  unfold alikeB at hr
  replace hr := Lib.hid hr
  replace hord := Lib.hid hord
  clear b1 hsz
  by_cases hid : c1 = c2 ∧ s1 = s2 ∧ n1 = n2
  · obtain ⟨rfl, rfl, rfl⟩ := hid
    by_cases he : e1 = e2
    · subst he
      go_enter Try.func11, Try.ntmps11
      go_wp2_with fail
      refine (hord.out _ hbl).mono ?_
      rintro e w3 ⟨rfl, hb3⟩
      dsimp only
      have hfin := below_then hb3 hbl
      by_cases h0 : o = 0
      · have hr' : r = true := by rw [← hr.out]; simp [h0]
        subst h0 hr'
        go_wp2_with fail
        go_ret
        exact ⟨rfl, hfin⟩
      · have hr' : r = false := by rw [← hr.out]; simp [h0]
        have h0' : (o == 0) = false := beq_eq_false_iff_ne.2 h0
        subst hr'
        go_wp2_with fail
        go_ret
        exact ⟨rfl, hfin⟩
    · have hr' : r = false := by rw [← hr.out]; simp [he]
      have he' : (e1 == e2) = false := beq_eq_false_iff_ne.2 he
      subst hr'
      go_enter Try.func11, Try.ntmps11
      go_wp2_with fail
      go_ret
      exact ⟨rfl, hbl⟩
  · have hr' : r = false := by
      rw [← hr.out]
      have : (decide (c1 = c2) && decide (s1 = s2) && decide (n1 = n2)) = false := by
        cases h1 : decide (c1 = c2)
        · rfl
        · cases h2 : decide (s1 = s2)
          · rfl
          · cases h3 : decide (n1 = n2)
            · rfl
            · exact absurd ⟨of_decide_eq_true h1, of_decide_eq_true h2, of_decide_eq_true h3⟩ hid
      rw [this]; rfl
    have hid' : (c1 == c2 && (s1 == s2 && n1 == n2)) = false := by
      cases h : (c1 == c2 && (s1 == s2 && n1 == n2))
      · rfl
      · simp only [Bool.and_eq_true, beq_iff_eq] at h
        exact absurd ⟨h.1, h.2.1, h.2.2⟩ hid
    subst hr'
    go_enter Try.func11, Try.ntmps11
    go_wp2_with fail
    all_goals (go_ret; exact ⟨rfl, ((Below.refl w.heap.size w).alloc (Nat.le_refl _) _).alloc (by simp) _⟩)

mutual
theorem ordV_self : ∀ v : Val, ordV v v = 0
  | .mk k i f s l => by
    rw [ordV, ordL_self l]
    unfold ordC
    rw [if_pos rfl]
    split
    · exact cmpI_eq i
    · split
      · unfold ordFl
        cases nanB f
        · simp only [Bool.false_eq_true, if_false]
          split
          · exact cmpI_eq _
          · exact cmpI_eq _
        · rfl
      · split
        · exact (compare_eq_zero _ _).2 rfl
        · split <;> rfl
theorem ordL_self : ∀ l : List Val, ordL l l = 0
  | [] => by rw [ordL]
  | v :: l => by rw [ordL, if_pos (ordV_self v)]; exact ordL_self l
end
end Go.Proofs.Ytiajbcfelhlapaa
