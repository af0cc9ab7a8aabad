/- A value of one of the program's kinds: what the value package says of a flat one. -/
import Derived.Test.YtafogjonicdbmaaRead
import Derived.Test.YtafogjonicdbmaaRegion
namespace Go.Proofs.Ytafogjonicdbmaa
open Go.RowKit

/-- An api.Value as the machine holds it. -/
def vagg (k i : Int) (f : Nat) (s : ByteArray) (A : Option Addr) (n c : Nat) : Value :=
  .agg #[.int .i64 k, .int .i64 i, .float .f64 f, .string s, .slice A n c]

def Says (w : World) (v : Value) (e : Ending) (w' : World) : Prop := e = .returned v ∧ Below w.heap.size w w'

def kindOf (k : Int) : Int := if k < 0 ∨ 4 < k then 0 else k

theorem val_kind (k i : Int) (f : Nat) (s : ByteArray) (A : Option Addr) (n c : Nat) (w : World) :
    Calls Try.prog 52 #[.agg #[.int .i64 k, .int .i64 i, .float .f64 f, .string s, .slice A n c]] w (Says w (.int .i64 (kindOf k))) := by
  by_cases h0 : k < 0
  · have hk : kindOf k = 0 := by simp [kindOf, h0]
    rw [hk]
    go_enter Try.func52, Try.ntmps52
    go_wp2
    go_ret
    exact ⟨rfl, (Below.refl _ w).alloc (Nat.le_refl _) _⟩
  by_cases h4 : 4 < k
  · have hk : kindOf k = 0 := by simp [kindOf, h4]
    rw [hk]
    go_enter Try.func52, Try.ntmps52
    go_wp2
    go_ret
    exact ⟨rfl, (Below.refl _ w).alloc (Nat.le_refl _) _⟩
  · have hk : kindOf k = k := by simp [kindOf, h0, h4]
    rw [hk]
    go_enter Try.func52, Try.ntmps52
    go_wp2
    go_ret
    exact ⟨rfl, (Below.refl _ w).alloc (Nat.le_refl _) _⟩

/-- The cells of a value in a block of a world's own. -/
def SV (b : Nat) (k i : Int) (f : Nat) (s : ByteArray) (A : Option Addr) (n c : Nat) (w W : World) : Prop :=
  W.cell? ⟨b, 0, none⟩ = some (.int .i64 k) ∧ W.cell? ⟨b, 1, none⟩ = some (.int .i64 i) ∧ W.cell? ⟨b, 2, none⟩ = some (.float .f64 f) ∧ W.cell? ⟨b, 3, none⟩ = some (.string s) ∧ W.cell? ⟨b, 4, none⟩ = some (.slice A n c) ∧ Below w.heap.size w W ∧ b < W.heap.size
theorem SV.alloc {w0 : World} (w : World) (h : Below w0.heap.size w0 w) (k i : Int) (f : Nat) (s : ByteArray) (A : Option Addr) (n c : Nat) : SV w.heap.size k i f s A n c w0 (w.alloc (.cells #[.int .i64 k, .int .i64 i, .float .f64 f, .string s, .slice A n c] 26)) := by
  have hb := Blk.new w 26 #[.int .i64 k, .int .i64 i, .float .f64 f, .string s, .slice A n c]
  exact ⟨hb.cell 0, hb.cell 1, hb.cell 2, hb.cell 3, hb.cell 4, h.alloc h.size _, by simp⟩
theorem SV.drew {b : Nat} {k i : Int} {f : Nat} {s : ByteArray} {A : Option Addr} {n c : Nat} {w0 w : World} (h : SV b k i f s A n c w0 w) : SV b k i f s A n c w0 w.drew :=
  ⟨h.1, h.2.1, h.2.2.1, h.2.2.2.1, h.2.2.2.2.1, h.2.2.2.2.2.1.drew, h.2.2.2.2.2.2⟩
theorem SV.below {b : Nat} {k i : Int} {f : Nat} {s : ByteArray} {A : Option Addr} {n c : Nat} {w0 w w' : World} (h : SV b k i f s A n c w0 w) (hb : Below w.heap.size w w') : SV b k i f s A n c w0 w' := by
  obtain ⟨h0, h1, h2, h3, h4, h5, h6⟩ := h
  exact ⟨(hb.cell h6).trans h0, (hb.cell h6).trans h1, (hb.cell h6).trans h2, (hb.cell h6).trans h3, (hb.cell h6).trans h4, below_then hb h5, Nat.lt_of_lt_of_le h6 hb.size⟩

theorem val_strange_flat (k i : Int) (f : Nat) (s : ByteArray) (A : Option Addr) (n c : Nat) (w : World) (h0 : 0 ≤ k) (h4 : k < 4) :
    Calls Try.prog 42 #[.agg #[.int .i64 k, .int .i64 i, .float .f64 f, .string s, .slice A n c]] w (Says w (.bool false)) := by
  have hk : kindOf k = k := by simp [kindOf]; omega
  have k4 : (k == 4) = false := by rw [beq_eq_false_iff_ne]; omega
  have hS : SV w.heap.size k i f s A n c w (w.alloc (.cells #[.int .i64 k, .int .i64 i, .float .f64 f, .string s, .slice A n c] 26)) := SV.alloc w (Below.refl _ _) k i f s A n c
  go_enter Try.func42, Try.ntmps42
  go_wp2_with fail
  generalize w.alloc (.cells #[.int .i64 k, .int .i64 i, .float .f64 f, .string s, .slice A n c] 26) = w1 at hS ⊢
  generalize w.heap.size = b at hS ⊢
  have hS2 : w1.drew.cell? ⟨b, 0, none⟩ = some (.int .i64 k) ∧ w1.drew.cell? ⟨b, 1, none⟩ = some (.int .i64 i) ∧ w1.drew.cell? ⟨b, 2, none⟩ = some (.float .f64 f) ∧ w1.drew.cell? ⟨b, 3, none⟩ = some (.string s) ∧ w1.drew.cell? ⟨b, 4, none⟩ = some (.slice A n c) ∧ Below w.heap.size w w1.drew ∧ b < w1.drew.heap.size := hS.drew
  refine wp_region_lex (fun W => W.cell? ⟨b, 0, none⟩ = some (.int .i64 k) ∧ W.cell? ⟨b, 1, none⟩ = some (.int .i64 i) ∧ W.cell? ⟨b, 2, none⟩ = some (.float .f64 f) ∧ W.cell? ⟨b, 3, none⟩ = some (.string s) ∧ W.cell? ⟨b, 4, none⟩ = some (.slice A n c) ∧ Below w.heap.size w W ∧ b < W.heap.size) [1, 2, 7, 11] [3, 12] [0, 1, 2, 3, 4, 5, 6, 7, 8, 9, 10, 11, 12, 13, 14, 15] (by kernel_rfl) rfl (by kernel_rfl) (by kernel_rfl) (fun _ _ d _ _ h => by cases d <;> exact h) ?_
  repeat (first | (refine lexG_take _ ?_ rfl rfl rfl rfl (fun _ => ?_) ?_; rotate_left; (focus (go_simp; with_reducible rfl)); try simp only [Act.put, List.setIfInBounds_toArray, List.set_cons_zero, List.set_cons_succ]) | (refine lexG_held _ ?_ rfl rfl rfl rfl (by assumption) (fun _ hSw => ?_) ?_; rotate_left; (focus ((try dsimp only at hSw); go_simp; with_reducible rfl)); try simp only [Act.put, List.setIfInBounds_toArray, List.set_cons_zero, List.set_cons_succ]) | (refine lexG_skip _ rfl rfl (by assumption) ?_; try simp only [Act.put, List.setIfInBounds_toArray, List.set_cons_zero, List.set_cons_succ]))
  refine lexG_now _ rfl rfl rfl (fun K hK => ?_)
  go_wp2_with fail
  refine (val_kind _ _ _ _ _ _ _ _).mono ?_
  rintro e w2 ⟨rfl, hb2⟩
  rw [hk]
  dsimp only
  have hS3 : w2.cell? ⟨b, 0, none⟩ = some (.int .i64 k) ∧ w2.cell? ⟨b, 1, none⟩ = some (.int .i64 i) ∧ w2.cell? ⟨b, 2, none⟩ = some (.float .f64 f) ∧ w2.cell? ⟨b, 3, none⟩ = some (.string s) ∧ w2.cell? ⟨b, 4, none⟩ = some (.slice A n c) ∧ Below w.heap.size w w2 ∧ b < w2.heap.size := hS.drew.below hb2
  refine hK _ _ _ (fun _ h => h) hS3 ?_
  clear hK K hS hS2 hb2
  try simp only [Act.put, List.setIfInBounds_toArray, List.set_cons_zero, List.set_cons_succ]
  repeat (first | (refine lexG_take _ ?_ rfl rfl rfl rfl (fun _ => ?_) ?_; rotate_left; (focus (go_simp; with_reducible rfl)); try simp only [Act.put, List.setIfInBounds_toArray, List.set_cons_zero, List.set_cons_succ]) | (refine lexG_held _ ?_ rfl rfl rfl rfl (by assumption) (fun _ hSw => ?_) ?_; rotate_left; (focus ((try dsimp only at hSw); go_simp; with_reducible rfl)); try simp only [Act.put, List.setIfInBounds_toArray, List.set_cons_zero, List.set_cons_succ]) | (refine lexG_skip _ rfl rfl (by assumption) ?_; try simp only [Act.put, List.setIfInBounds_toArray, List.set_cons_zero, List.set_cons_succ]))
  refine lexG_nil ?_
  go_wp2_with fail
  go_ret
  exact ⟨rfl, hS3.2.2.2.2.2.1⟩

theorem val_great_flat (k i : Int) (f : Nat) (s : ByteArray) (A : Option Addr) (n c : Nat) (d : Int) (w : World) (h0 : 0 ≤ k) (h4 : k < 4) (hs : s.size ≤ 256) :
    Calls Try.prog 43 #[.agg #[.int .i64 k, .int .i64 i, .float .f64 f, .string s, .slice A n c], .int .i64 d] w (Says w (.bool false)) := by
  have k4 : (k == 4) = false := by rw [beq_eq_false_iff_ne]; omega
  have hfin : Below w.heap.size w ((w.alloc (.cells #[.int .i64 k, .int .i64 i, .float .f64 f, .string s, .slice A n c] 26)).alloc (.cells #[.int .i64 d] 3)) := ((Below.refl _ w).alloc (Nat.le_refl _) _).alloc (by simp) _
  by_cases h3 : k = 3
  · subst h3
    go_enter Try.func43, Try.ntmps43
    go_wp2
    go_ret
    refine ⟨?_, hfin⟩
    simp [go_sem]
    omega
  · have k3 : (k == 3) = false := by rw [beq_eq_false_iff_ne]; omega
    go_enter Try.func43, Try.ntmps43
    go_wp2
    go_ret
    exact ⟨rfl, hfin⟩

theorem val_size_num (k i : Int) (f : Nat) (s : ByteArray) (A : Option Addr) (n c : Nat) (w : World) (h : k = 1 ∨ k = 2) :
    Calls Try.prog 44 #[.agg #[.int .i64 k, .int .i64 i, .float .f64 f, .string s, .slice A n c]] w (Says w (.int .i64 9)) := by
  have hfin : Below w.heap.size w (w.alloc (.cells #[.int .i64 k, .int .i64 i, .float .f64 f, .string s, .slice A n c] 26)) := (Below.refl _ w).alloc (Nat.le_refl _) _
  rcases h with rfl | rfl
  · go_enter Try.func44, Try.ntmps44
    go_wp2
    go_ret
    exact ⟨rfl, hfin⟩
  · go_enter Try.func44, Try.ntmps44
    go_wp2
    go_ret
    exact ⟨rfl, hfin⟩

theorem val_check_num (k i : Int) (f : Nat) (s : ByteArray) (A : Option Addr) (n c : Nat) (w : World) (h : k = 1 ∨ k = 2) (hs : s.size ≤ 256) :
    Calls Try.prog 29 #[.agg #[.int .i64 k, .int .i64 i, .float .f64 f, .string s, .slice A n c]] w (Says w (.int .i64 0)) := by
  have h0 : 0 ≤ k := by omega
  have h4 : k < 4 := by omega
  have hS := SV.alloc w (Below.refl _ _) k i f s A n c
  go_enter Try.func29, Try.ntmps29
  go_wp2_with fail
  generalize w.alloc (.cells #[.int .i64 k, .int .i64 i, .float .f64 f, .string s, .slice A n c] 26) = w1 at hS ⊢
  generalize hb : w.heap.size = b at hS ⊢
  replace hb := Lib.hid hb
  refine (val_strange_flat k i f s A n c w1 h0 h4).mono ?_
  rintro e w2 ⟨rfl, hb2⟩
  dsimp only
  have hS2 : SV b k i f s A n c w w2 := hS.below hb2
  obtain ⟨e0, e1, e2, e3, e4, e5, e6⟩ := id hS2
  go_wp2_with fail
  refine (val_great_flat k i f s A n c 8 w2 h0 h4 hs).mono ?_
  rintro e w3 ⟨rfl, hb3⟩
  dsimp only
  clear e0 e1 e2 e3 e4 e5 e6
  have hS3 : SV b k i f s A n c w w3 := hS2.below hb3
  obtain ⟨e0, e1, e2, e3, e4, e5, e6⟩ := id hS3
  go_wp2_with fail
  refine (val_size_num k i f s A n c w3 h).mono ?_
  rintro e w4 ⟨rfl, hb4⟩
  dsimp only
  go_wp2_with fail
  go_ret
  exact ⟨rfl, below_then hb4 hS3.2.2.2.2.2.1⟩
end Go.Proofs.Ytafogjonicdbmaa
