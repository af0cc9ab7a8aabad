/- value.Check at any value. -/
import Derived.Test.YtafogjonicdbmaaTree
namespace Go.Proofs.Ytafogjonicdbmaa
open Go.RowKit

theorem val_strange_list (k i : Int) (f : Nat) (s : ByteArray) (A : Option Addr) (n c : Nat) (q : Bool) (w : World) (hk4 : k = 4) (hidx : ∀ w2, Below w.heap.size w w2 → Calls Try.prog 53 #[.slice A n c, .func (Fn.func 42) #[] #[]] w2 (Says w2 (.bool q))) :
    Calls Try.prog 42 #[.agg #[.int .i64 k, .int .i64 i, .float .f64 f, .string s, .slice A n c]] w (Says w (.bool q)) := by
  have hk : kindOf k = k := by simp [kindOf]; omega
  have k4 : (k == 4) = true := by rw [beq_iff_eq]; exact hk4
  have hS : SV w.heap.size k i f s A n c w (w.alloc (.cells #[.int .i64 k, .int .i64 i, .float .f64 f, .string s, .slice A n c] 26)) := SV.alloc w (Below.refl _ _) k i f s A n c
  replace hidx := Lib.hid hidx
  clear hk4
  go_enter Try.func42, Try.ntmps42
  go_wp2_with fail
  generalize w.alloc (.cells #[.int .i64 k, .int .i64 i, .float .f64 f, .string s, .slice A n c] 26) = w1 at hS ⊢
  generalize hb : w.heap.size = b at hS ⊢
  replace hb := Lib.hid hb
  have hS2 : w1.drew.cell? ⟨b, 0, none⟩ = some (.int .i64 k) ∧ w1.drew.cell? ⟨b, 1, none⟩ = some (.int .i64 i) ∧ w1.drew.cell? ⟨b, 2, none⟩ = some (.float .f64 f) ∧ w1.drew.cell? ⟨b, 3, none⟩ = some (.string s) ∧ w1.drew.cell? ⟨b, 4, none⟩ = some (.slice A n c) ∧ Below w.heap.size w w1.drew ∧ b < w1.drew.heap.size := hS.drew
  refine wp_region_lex (fun W => W.cell? ⟨b, 0, none⟩ = some (.int .i64 k) ∧ W.cell? ⟨b, 1, none⟩ = some (.int .i64 i) ∧ W.cell? ⟨b, 2, none⟩ = some (.float .f64 f) ∧ W.cell? ⟨b, 3, none⟩ = some (.string s) ∧ W.cell? ⟨b, 4, none⟩ = some (.slice A n c) ∧ Below w.heap.size w W ∧ b < W.heap.size) [1, 2, 7, 11] [3, 12] [0, 1, 2, 3, 4, 5, 6, 7, 8, 9, 10, 11, 12, 13, 14, 15] (by kernel_rfl) rfl (by kernel_rfl) (by kernel_rfl) (fun _ _ d _ _ h => by cases d <;> exact h) ?_
  repeat (first | (refine lexG_take _ ?_ rfl rfl rfl rfl (fun _ => ?_) ?_; rotate_left; (focus (go_simp; with_reducible rfl)); try simp only [Act.put, List.setIfInBounds_toArray, List.set_cons_zero, List.set_cons_succ]) | (refine lexG_held _ ?_ rfl rfl rfl rfl (by assumption) (fun _ hSw => ?_) ?_; rotate_left; (focus ((try dsimp only at hSw); go_simp; with_reducible rfl)); try simp only [Act.put, List.setIfInBounds_toArray, List.set_cons_zero, List.set_cons_succ]) | (refine lexG_skip _ rfl rfl (by assumption) ?_; try simp only [Act.put, List.setIfInBounds_toArray, List.set_cons_zero, List.set_cons_succ]))
  refine lexG_now _ rfl rfl rfl (fun K hK => ?_)
  go_wp2_with fail
  refine (val_kind _ _ _ _ _ _ _ _).mono ?_
  rintro e w2 ⟨rfl, hb2⟩
  rw [hk]
  dsimp only
  have hS3 : w2.cell? ⟨b, 0, none⟩ = some (.int .i64 k) ∧ w2.cell? ⟨b, 1, none⟩ = some (.int .i64 i) ∧ w2.cell? ⟨b, 2, none⟩ = some (.float .f64 f) ∧ w2.cell? ⟨b, 3, none⟩ = some (.string s) ∧ w2.cell? ⟨b, 4, none⟩ = some (.slice A n c) ∧ Below w.heap.size w w2 ∧ b < w2.heap.size := hS.drew.below hb2
  refine hK _ _ _ (fun _ h => h) hS3 ?_
  clear hK K hS hS2 hb2
  try simp only [Act.put, List.setIfInBounds_toArray, List.set_cons_zero, List.set_cons_succ]
  repeat (first | (refine lexG_take _ ?_ rfl rfl rfl rfl (fun _ => ?_) ?_; rotate_left; (focus (go_simp; with_reducible rfl)); try simp only [Act.put, List.setIfInBounds_toArray, List.set_cons_zero, List.set_cons_succ]) | (refine lexG_held _ ?_ rfl rfl rfl rfl (by assumption) (fun _ hSw => ?_) ?_; rotate_left; (focus ((try dsimp only at hSw); go_simp; with_reducible rfl)); try simp only [Act.put, List.setIfInBounds_toArray, List.set_cons_zero, List.set_cons_succ]) | (refine lexG_skip _ rfl rfl (by assumption) ?_; try simp only [Act.put, List.setIfInBounds_toArray, List.set_cons_zero, List.set_cons_succ]))
  refine lexG_now _ rfl rfl rfl (fun K hK => ?_)
  go_wp2_with fail
  refine (hidx.out w2 hS3.2.2.2.2.2.1).mono ?_
  rintro e w3 ⟨rfl, hb3⟩
  dsimp only
  have hfin := below_then hb3 hS3.2.2.2.2.2.1
  have hS4 : w3.cell? ⟨b, 0, none⟩ = some (.int .i64 k) ∧ w3.cell? ⟨b, 1, none⟩ = some (.int .i64 i) ∧ w3.cell? ⟨b, 2, none⟩ = some (.float .f64 f) ∧ w3.cell? ⟨b, 3, none⟩ = some (.string s) ∧ w3.cell? ⟨b, 4, none⟩ = some (.slice A n c) ∧ Below w.heap.size w w3 ∧ b < w3.heap.size := SV.below hS3 hb3
  refine hK _ _ _ (fun _ h => h) hS4 ?_
  clear hK K hS3 hS4
  try simp only [Act.put, List.setIfInBounds_toArray, List.set_cons_zero, List.set_cons_succ]
  repeat (first | (refine lexG_take _ ?_ rfl rfl rfl rfl (fun _ => ?_) ?_; rotate_left; (focus (go_simp; with_reducible rfl)); try simp only [Act.put, List.setIfInBounds_toArray, List.set_cons_zero, List.set_cons_succ]) | (refine lexG_held _ ?_ rfl rfl rfl rfl (by assumption) (fun _ hSw => ?_) ?_; rotate_left; (focus ((try dsimp only at hSw); go_simp; with_reducible rfl)); try simp only [Act.put, List.setIfInBounds_toArray, List.set_cons_zero, List.set_cons_succ]) | (refine lexG_skip _ rfl rfl (by assumption) ?_; try simp only [Act.put, List.setIfInBounds_toArray, List.set_cons_zero, List.set_cons_succ]))
  refine lexG_nil ?_
  go_wp2_with fail
  go_ret
  exact ⟨rfl, hfin⟩

theorem val_strange_out (k i : Int) (f : Nat) (s : ByteArray) (A : Option Addr) (n c : Nat) (w : World) (hk4 : k < 0 ∨ 4 < k) :
    Calls Try.prog 42 #[.agg #[.int .i64 k, .int .i64 i, .float .f64 f, .string s, .slice A n c]] w (Says w (.bool true)) := by
  have hk : kindOf k = 0 := by simp [kindOf, hk4]
  have k0 : (k != 0) = true := by rw [bne_iff_ne]; omega
  have hS : SV w.heap.size k i f s A n c w (w.alloc (.cells #[.int .i64 k, .int .i64 i, .float .f64 f, .string s, .slice A n c] 26)) := SV.alloc w (Below.refl _ _) k i f s A n c
  clear hk4
  go_enter Try.func42, Try.ntmps42
  go_wp2_with fail
  generalize w.alloc (.cells #[.int .i64 k, .int .i64 i, .float .f64 f, .string s, .slice A n c] 26) = w1 at hS ⊢
  generalize hb : w.heap.size = b at hS ⊢
  replace hb := Lib.hid hb
  have hS2 : w1.drew.cell? ⟨b, 0, none⟩ = some (.int .i64 k) ∧ w1.drew.cell? ⟨b, 1, none⟩ = some (.int .i64 i) ∧ w1.drew.cell? ⟨b, 2, none⟩ = some (.float .f64 f) ∧ w1.drew.cell? ⟨b, 3, none⟩ = some (.string s) ∧ w1.drew.cell? ⟨b, 4, none⟩ = some (.slice A n c) ∧ Below w.heap.size w w1.drew ∧ b < w1.drew.heap.size := hS.drew
  refine wp_region_lex (fun W => W.cell? ⟨b, 0, none⟩ = some (.int .i64 k) ∧ W.cell? ⟨b, 1, none⟩ = some (.int .i64 i) ∧ W.cell? ⟨b, 2, none⟩ = some (.float .f64 f) ∧ W.cell? ⟨b, 3, none⟩ = some (.string s) ∧ W.cell? ⟨b, 4, none⟩ = some (.slice A n c) ∧ Below w.heap.size w W ∧ b < W.heap.size) [1, 2, 7, 11] [3, 12] [0, 1, 2, 3, 4, 5, 6, 7, 8, 9, 10, 11, 12, 13, 14, 15] (by kernel_rfl) rfl (by kernel_rfl) (by kernel_rfl) (fun _ _ d _ _ h => by cases d <;> exact h) ?_
  repeat (first | (refine lexG_take _ ?_ rfl rfl rfl rfl (fun _ => ?_) ?_; rotate_left; (focus (go_simp; with_reducible rfl)); try simp only [Act.put, List.setIfInBounds_toArray, List.set_cons_zero, List.set_cons_succ]) | (refine lexG_held _ ?_ rfl rfl rfl rfl (by assumption) (fun _ hSw => ?_) ?_; rotate_left; (focus ((try dsimp only at hSw); go_simp; with_reducible rfl)); try simp only [Act.put, List.setIfInBounds_toArray, List.set_cons_zero, List.set_cons_succ]) | (refine lexG_skip _ rfl rfl (by assumption) ?_; try simp only [Act.put, List.setIfInBounds_toArray, List.set_cons_zero, List.set_cons_succ]))
  refine lexG_now _ rfl rfl rfl (fun K hK => ?_)
  go_wp2_with fail
  refine (val_kind _ _ _ _ _ _ _ _).mono ?_
  rintro e w2 ⟨rfl, hb2⟩
  rw [hk]
  dsimp only
  have hS3 : w2.cell? ⟨b, 0, none⟩ = some (.int .i64 k) ∧ w2.cell? ⟨b, 1, none⟩ = some (.int .i64 i) ∧ w2.cell? ⟨b, 2, none⟩ = some (.float .f64 f) ∧ w2.cell? ⟨b, 3, none⟩ = some (.string s) ∧ w2.cell? ⟨b, 4, none⟩ = some (.slice A n c) ∧ Below w.heap.size w w2 ∧ b < w2.heap.size := hS.drew.below hb2
  refine hK _ _ _ (fun _ h => h) hS3 ?_
  clear hK K hS hS2 hb2
  try simp only [Act.put, List.setIfInBounds_toArray, List.set_cons_zero, List.set_cons_succ]
  repeat (first | (refine lexG_take _ ?_ rfl rfl rfl rfl (fun _ => ?_) ?_; rotate_left; (focus (go_simp; with_reducible rfl)); try simp only [Act.put, List.setIfInBounds_toArray, List.set_cons_zero, List.set_cons_succ]) | (refine lexG_held _ ?_ rfl rfl rfl rfl (by assumption) (fun _ hSw => ?_) ?_; rotate_left; (focus ((try dsimp only at hSw); go_simp; with_reducible rfl)); try simp only [Act.put, List.setIfInBounds_toArray, List.set_cons_zero, List.set_cons_succ]) | (refine lexG_skip _ rfl rfl (by assumption) ?_; try simp only [Act.put, List.setIfInBounds_toArray, List.set_cons_zero, List.set_cons_succ]))
  refine lexG_nil ?_
  go_wp2_with fail
  go_ret
  exact ⟨rfl, hS3.2.2.2.2.2.1⟩

theorem val_great_list (k i : Int) (f : Nat) (s : ByteArray) (A : Option Addr) (n c : Nat) (d : Int) (q : Bool) (w : World) (hk4 : k = 4) (hd0 : -9223372036854775808 ≤ d) (hd1 : d ≤ 9223372036854775807)
    (hidx : 1 ≤ d → ∀ w2 pd, Below w.heap.size w w2 → w2.cell? pd = some (.int .i64 d) → pd.block < w2.heap.size → Calls Try.prog 53 #[.slice A n c, .func (Fn.func 54) #[] #[.pointer (some pd)]] w2 (Says w2 (.bool q))) :
    Calls Try.prog 43 #[.agg #[.int .i64 k, .int .i64 i, .float .f64 f, .string s, .slice A n c], .int .i64 d] w (Says w (.bool (decide (64 < n) || decide (d < 1) || q))) := by
  have k4 : (k == 4) = true := by rw [beq_iff_eq]; exact hk4
  have k3 : (k == 3) = false := by rw [beq_eq_false_iff_ne]; omega
  have hmf : ∀ (fn : Fn) (first cap : Array Value) (w : World), (Instr.makeFunc fn first cap).run Try.prog w = .ok (.func fn first cap) w := fun _ _ _ _ => rfl
  have hv := (Blk.new w 26 #[.int .i64 k, .int .i64 i, .float .f64 f, .string s, .slice A n c]).alloc (.cells #[.int .i64 d] 3)
  have hi := Blk.new (w.alloc (.cells #[.int .i64 k, .int .i64 i, .float .f64 f, .string s, .slice A n c] 26)) 3 #[.int .i64 d]
  have hfin : Below w.heap.size w ((w.alloc (.cells #[.int .i64 k, .int .i64 i, .float .f64 f, .string s, .slice A n c] 26)).alloc (.cells #[.int .i64 d] 3)) := ((Below.refl _ w).alloc (Nat.le_refl _) _).alloc (by simp) _
  have he : (w.alloc (.cells #[.int .i64 k, .int .i64 i, .float .f64 f, .string s, .slice A n c] 26)).heap.size = w.heap.size + 1 := by simp
  rw [he] at hi
  have hcl := fun h1 : 1 ≤ d => hidx h1 _ ⟨w.heap.size + 1, 0, none⟩ hfin (hi.cell 0) hi.lt
  clear hk4 hidx he hi hd0 hd1
  replace hcl := Lib.hid hcl
  replace hv := Lib.hid hv
  replace hfin := Lib.hid hfin
  by_cases h64 : 64 < n
  · have e : (decide (64 < n) || decide (d < 1) || q) = true := by simp [h64]
    rw [e]
    have h64i : (64 : Int) < (n : Int) := by omega
    go_enter Try.func43, Try.ntmps43
    go_wp2_with fail
    go_ret
    exact ⟨rfl, hfin.out⟩
  have h64i : (n : Int) ≤ 64 := by omega
  by_cases hd : d < 1
  · have e : (decide (64 < n) || decide (d < 1) || q) = true := by simp [hd]
    rw [e]
    go_enter Try.func43, Try.ntmps43
    go_wp2_with fail
    go_ret
    exact ⟨rfl, hfin.out⟩
  · have e : (decide (64 < n) || decide (d < 1) || q) = q := by simp [h64, hd]
    rw [e]
    go_enter Try.func43, Try.ntmps43
    go_wp2_with fail
    refine (hcl.out (by omega)).mono ?_
    rintro e w3 ⟨rfl, hb3⟩
    dsimp only
    go_wp2_with fail
    go_ret
    refine ⟨?_, below_then hb3 hfin.out⟩
    show Ending.returned (.bool (decide ((64 : Int) < (n : Int)) || q)) = _
    rw [decide_eq_false (show ¬ (64 : Int) < (n : Int) by omega)]
    rfl

set_option maxHeartbeats 800000 in
theorem val_strange {w : World} {B : Nat} {v : Val} {cs : Array Value} (h : VReads w B v cs) : ∀ w1, Below B w w1 → B ≤ w1.heap.size → Calls Try.prog 42 #[.agg cs] w1 (Says w1 (.bool (strangeV v))) := by
  induction h with
  | @mk k i f s l A c xs css hn hr hx hxs ih =>
    intro w1 hb1 hB1
    have hidx : ∀ w2, Below w1.heap.size w1 w2 → Calls Try.prog 53 #[.slice A l.length c, .func (Fn.func 42) #[] #[]] w2 (Says w2 (.bool (l.any strangeV))) := by
      intro w2 hb2
      have hb12 : Below B w w2 := hb1.trans (hb2.mono hB1)
      have hB2 : B ≤ w2.heap.size := Nat.le_trans hB1 hb2.size
      exact contains_strange (hr.below hb12) hB2 hxs (fun j v hv => (hx j v hv).under hb12) hn (fun j v hv w3 hb3 => ih j v hv w3 (hb12.trans (hb3.mono hB2)) (Nat.le_trans hB2 hb3.size))
    have hst : strangeV (.mk k i f s l) = (decide (k < 0 ∨ 4 < k) || (k == 4 && l.any strangeV)) := by rw [← strangeL_any]; rfl
    obtain ⟨sb, hsb⟩ : ∃ sb, bstr s = sb := ⟨_, rfl⟩
    rw [hst, hsb]
    obtain ⟨q, hq⟩ : ∃ q, l.any strangeV = q := ⟨_, rfl⟩
    rw [hq] at hidx ⊢
    obtain ⟨n, hln⟩ : ∃ n, l.length = n := ⟨_, rfl⟩
    rw [hln] at hidx ⊢
    clear ih hx hxs hr hst hq hln hsb hn
    by_cases hflat : 0 ≤ k ∧ k < 4
    · have e : (decide (k < 0 ∨ 4 < k) || (k == 4 && q)) = false := by
        rw [decide_eq_false (by omega), show (k == 4) = false from by rw [beq_eq_false_iff_ne]; omega]
        rfl
      rw [e]
      exact val_strange_flat k i f sb A n c w1 hflat.1 hflat.2
    by_cases hk4 : k = 4
    · have e : (decide (k < 0 ∨ 4 < k) || (k == 4 && q)) = q := by rw [hk4]; simp
      rw [e]
      exact val_strange_list k i f sb A n c q w1 hk4 hidx
    · have e : (decide (k < 0 ∨ 4 < k) || (k == 4 && q)) = true := by rw [decide_eq_true (by omega)]; rfl
      rw [e]
      exact val_strange_out k i f sb A n c w1 (by omega)

theorem val_great_other (k i : Int) (f : Nat) (s : ByteArray) (A : Option Addr) (n c : Nat) (d : Int) (w : World) (hk4 : k ≠ 4) :
    Calls Try.prog 43 #[.agg #[.int .i64 k, .int .i64 i, .float .f64 f, .string s, .slice A n c], .int .i64 d] w (Says w (.bool (if k = 3 then decide (256 < s.size) else false))) := by
  have k4 : (k == 4) = false := by rw [beq_eq_false_iff_ne]; exact hk4
  have hfin : Below w.heap.size w ((w.alloc (.cells #[.int .i64 k, .int .i64 i, .float .f64 f, .string s, .slice A n c] 26)).alloc (.cells #[.int .i64 d] 3)) := ((Below.refl _ w).alloc (Nat.le_refl _) _).alloc (by simp) _
  by_cases h3 : k = 3
  · rw [if_pos h3]
    subst h3
    go_enter Try.func43, Try.ntmps43
    go_wp2
    go_ret
    refine ⟨?_, hfin⟩
    simp [go_sem]
    try omega
  · rw [if_neg h3]
    have k3 : (k == 3) = false := by rw [beq_eq_false_iff_ne]; exact h3
    go_enter Try.func43, Try.ntmps43
    go_wp2
    go_ret
    exact ⟨rfl, hfin⟩

theorem val_great_one (d : Int) (pd : Addr) (cs : Array Value) (q : Bool) (w : World) (hf : ∃ k i f s A n c, cs = #[.int .i64 k, .int .i64 i, .float .f64 f, .string s, .slice A n c]) (hp : w.cell? pd = some (.int .i64 d)) (hpl : pd.block < w.heap.size) (hd : 1 ≤ d) (hd1 : d ≤ 100)
    (hg : ∀ w1, Below w.heap.size w w1 → Calls Try.prog 43 #[.agg cs, .int .i64 (d - 1)] w1 (Says w1 (.bool q))) :
    Calls Try.prog 54 #[.agg cs, .pointer (some pd)] w (Says w (.bool q)) := by
  obtain ⟨k, i, f, s, A, n, c, rfl⟩ := hf
  have hfin := (Below.refl w.heap.size w).alloc (Nat.le_refl _) (.cells #[.int .i64 k, .int .i64 i, .float .f64 f, .string s, .slice A n c] 26)
  have hp1 := (hfin.cell (p := pd) hpl).trans hp
  have hcl := Lib.hid (hg _ hfin)
  replace hfin := Lib.hid hfin
  clear hg hp
  go_enter Try.func54, Try.ntmps54
  go_wp2_with fail
  refine hcl.out.mono ?_
  rintro e w3 ⟨rfl, hb3⟩
  dsimp only
  go_wp2_with fail
  go_ret
  exact ⟨rfl, below_then hb3 hfin.out⟩

set_option maxHeartbeats 800000 in
theorem val_great {w : World} {B : Nat} {v : Val} {cs : Array Value} (h : VReads w B v cs) : ∀ (d : Int) w1, 0 ≤ d → d ≤ 100 → Below B w w1 → B ≤ w1.heap.size → Calls Try.prog 43 #[.agg cs, .int .i64 d] w1 (Says w1 (.bool (greatV v d))) := by
  induction h with
  | @mk k i f s l A c xs css hn hr hx hxs ih =>
    intro d w1 hd0 hd1 hb1 hB1
    by_cases hk4 : k = 4
    · have hgt : greatV (.mk k i f s l) d = (decide (64 < l.length) || decide (d < 1) || l.any (greatV · (d - 1))) := by
        rw [← greatL_any, hk4]; rfl
      rw [hgt]
      refine val_great_list k i f (bstr s) A l.length c d (l.any (greatV · (d - 1))) w1 hk4 (by omega) (by omega) ?_
      · intro h1 w2 pd hb2 hpd hpl
        have hb12 : Below B w w2 := hb1.trans (hb2.mono hB1)
        have hB2 : B ≤ w2.heap.size := Nat.le_trans hB1 hb2.size
        refine contains_great (hr.below hb12) hB2 hxs (fun j v hv => (hx j v hv).under hb12) hn (fun j v hv w3 hb3 => ?_)
        exact val_great_one d pd (css j) _ w3 (hx j v hv).form ((hb3.cell hpl).trans hpd) (Nat.lt_of_lt_of_le hpl hb3.size) (by omega) hd1 (fun w4 hb4 => ih j v hv (d - 1) w4 (by omega) (by omega) ((hb12.trans (hb3.mono hB2)).trans (hb4.mono (Nat.le_trans hB2 hb3.size))) (Nat.le_trans (Nat.le_trans hB2 hb3.size) hb4.size))
    · have hgt : greatV (.mk k i f s l) d = (if k = 3 then decide (256 < s.length) else false) := by
        unfold greatV
        rw [if_neg hk4]
      rw [hgt]
      refine (val_great_other k i f (bstr s) A l.length c d w1 hk4).mono ?_
      rintro e w' ⟨rfl, hb⟩
      rw [bstr_size]
      exact ⟨rfl, hb⟩

theorem sizeL_take (l : List Val) : ∀ n, sizeL (l.take n) ≤ sizeL l := by
  induction l with
  | nil => intro n; simp
  | cons v l ih =>
    intro n
    cases n with
    | zero => simp [sizeL]
    | succ n =>
      simp only [List.take_succ_cons, sizeL]
      have := ih n
      omega

set_option maxHeartbeats 800000 in
theorem val_size {w : World} {B : Nat} {v : Val} {cs : Array Value} (h : VReads w B v cs) : ∀ w1, sizeV v ≤ 1000000000 → Below B w w1 → B ≤ w1.heap.size → Calls Try.prog 44 #[.agg cs] w1 (Says w1 (.int .i64 (sizeV v : Int))) := by
  induction h with
  | @mk k i f s l A c xs css hn hr hx hxs ih =>
    intro w1 hsz hb1 hB1
    have hfin := (Below.refl w1.heap.size w1).alloc (Nat.le_refl _) (.cells #[.int .i64 k, .int .i64 i, .float .f64 f, .string (bstr s), .slice A l.length c] 26)
    have hbs : (bstr s).size = s.length := bstr_size s
    by_cases hk4 : k = 4
    · have hsv : sizeV (.mk k i f s l) = 2 + sizeL l := by rw [hk4]; rfl
      rw [hsv] at hsz ⊢
      subst hk4
      have hb2 : Below B w (w1.alloc (.cells #[.int .i64 4, .int .i64 i, .float .f64 f, .string (bstr s), .slice A l.length c] 26)) := hb1.trans (hfin.mono hB1)
      have hB2 : B ≤ (w1.alloc (.cells #[.int .i64 4, .int .i64 i, .float .f64 f, .string (bstr s), .slice A l.length c] 26)).heap.size := Nat.le_trans hB1 hfin.size
      replace ih := Lib.hid ih
      go_enter Try.func44, Try.ntmps44
      go_wp2_with fail
      generalize w1.alloc (.cells #[.int .i64 4, .int .i64 i, .float .f64 f, .string (bstr s), .slice A l.length c] 26) = w2 at *
      go_loopw [3, 28] (fun n i wr => ∃ j : Nat, j ≤ l.length ∧ i = .int .i64 (j : Int) ∧ n = .int .i64 ((2 + sizeL (l.take j) : Nat) : Int) ∧ Below w2.heap.size w2 wr) (fun _ i _ => l.length - (intOf i).toNat)
      case atStart => exact ⟨0, Nat.zero_le _, rfl, rfl, Below.refl _ _⟩
      case round =>
        obtain ⟨j, hj, rfl, rfl, hb⟩ := hrel
        obtain ⟨z, hz⟩ : ∃ z, 2 + sizeL (l.take j) = z := ⟨_, rfl⟩
        have hz' : sizeL (l.take j) = z - 2 := by omega
        have hz2 : 2 ≤ z := by omega
        rw [hz]
        by_cases hlt : j < l.length
        · obtain ⟨ad, rfl, -, -⟩ := hr.2 (by omega)
          have hgk : l[j]? = some l[j] := List.getElem?_eq_getElem hlt
          obtain ⟨k', i', f', s', A', n', c', hform⟩ := (hx j l[j] hgk).form
          have hc5 := hxs j hlt
          rw [hform] at hc5
          have hbb : Below B w wr := hb2.trans (hb.mono hB2)
          obtain ⟨g0, g1, g2, g3, g4⟩ := elem_cells (hr.below hbb) hlt hc5
          have hss := sizeL_sum l j hlt
          have hsle := sizeL_take l (j + 1)
          obtain ⟨u, hu⟩ : ∃ u, sizeV l[j] = u := ⟨_, rfl⟩
          have hfin3 := (Below.refl wr.heap.size wr).alloc (Nat.le_refl _) (.cells #[.int .i64 k', .int .i64 i', .float .f64 f', .string s', .slice A' n' c'] 26)
          have hcl := ih.out j l[j] hgk _ (by omega) (hbb.trans (hfin3.mono (Nat.le_trans hB2 hb.size))) (Nat.le_trans (Nat.le_trans hB2 hb.size) hfin3.size)
          rw [hform, hu] at hcl
          rw [hu, hz'] at hss
          have hzu : ((z : Nat) : Int) + (u : Int) ≤ 1000000000 := by omega
          have hnext : z + u = 2 + sizeL (l.take (j + 1)) := by omega
          have hb3 := hb.trans (hfin3.mono hb.size)
          replace hnext := Lib.hid hnext
          replace hfin3 := Lib.hid hfin3
          clear hss hsle hform hc5 hgk hu
          have hsf := fun a k x m w => run_store_float (P := Try.prog) a k x m w
          go_wp2_with fail
          refine hcl.mono ?_
          clear hcl
          rintro e w4 ⟨rfl, hb4⟩
          dsimp only
          have hb4' := below_then hb4 hb3
          go_wp2_with fail
          go_roundw
          case rel => exact ⟨j + 1, by omega, by simp, by rw [← hnext.out]; simp, by assumption⟩
          case measure => simp [intOf]; omega
        · have hj' : j = l.length := by omega
          subst hj'
          rw [List.take_length] at hz
          subst hz
          go_wp2_with fail
          go_ret
          exact ⟨rfl, below_then hb hfin⟩
    · have hbs' : ((bstr s).size : Int) ≤ 1000000000 ∨ k ≠ 3 := by
        by_cases h3 : k = 3
        · left
          have : sizeV (.mk k i f s l) = 3 + s.length := by rw [h3]; rfl
          omega
        · exact .inr h3
      by_cases h12 : k = 1 ∨ k = 2
      · have : sizeV (.mk k i f s l) = 9 := by unfold sizeV; rw [if_pos h12]
        rw [this]
        exact val_size_num k i f (bstr s) A l.length c w1 h12
      by_cases h3 : k = 3
      · have hs3 : sizeV (.mk k i f s l) = 3 + s.length := by rw [h3]; rfl
        rw [hs3]
        subst h3
        have hle : (s.length : Int) ≤ 1000000000 := by omega
        have e3 : ((3 + s.length : Nat) : Int) = 1 + (2 + (s.length : Int)) := by omega
        rw [e3]
        clear hbs' h12 hk4 hs3 e3 hsz
        go_enter Try.func44, Try.ntmps44
        go_wp2
        go_ret
        exact ⟨rfl, hfin⟩
      · have hs1 : sizeV (.mk k i f s l) = 1 := by unfold sizeV; rw [if_neg h12, if_neg h3, if_neg hk4]
        rw [hs1]
        have k1 : (k == 1) = false := by rw [beq_eq_false_iff_ne]; omega
        have k2 : (k == 2) = false := by rw [beq_eq_false_iff_ne]; omega
        have k3 : (k == 3) = false := by rw [beq_eq_false_iff_ne]; omega
        have k4 : (k == 4) = false := by rw [beq_eq_false_iff_ne]; omega
        clear hbs' h12 hk4 hs1 hsz
        go_enter Try.func44, Try.ntmps44
        go_wp2
        go_ret
        exact ⟨rfl, hfin⟩
end Go.Proofs.Ytafogjonicdbmaa
