/- A value read, whatever its size; by the program and by the document. -/
import Derived.Test.YtlkokkbikkbaoaaOpQ
set_option linter.unusedSimpArgs false
set_option linter.unusedVariables false
set_option linter.unusedSimpArgs false
set_option linter.unusedVariables false
namespace Go.Proofs.Ytlkokkbikkbaoaa
open Go.RowKit
set_option maxRecDepth 100000

/-- What the reading of a value comes to. -/
def rdV (b : List UInt8) : Option (Val × Nat) := match pv 8 b with
  | some (v, m) => if m ≤ 4096 then some (v, m) else none
  | none => none
theorem rdV_some {b : List UInt8} {v : Val} {m : Nat} (h : pv 8 b = some (v, m)) (hm : m ≤ 4096) : rdV b = some (v, m) := by unfold rdV; rw [h]; exact if_pos hm
theorem rdV_big {b : List UInt8} {v : Val} {m : Nat} (h : pv 8 b = some (v, m)) (hm : ¬ m ≤ 4096) : rdV b = none := by unfold rdV; rw [h]; exact if_neg hm
theorem rdV_none {b : List UInt8} (h : pv 8 b = none) : rdV b = none := by unfold rdV; rw [h]
theorem pv_big {b : List UInt8} {v : Val} {m : Nat} (h : pv 8 b = some (v, m)) (hm : ¬ m ≤ 4096) : checkV v ≠ 0 := by
  obtain ⟨h1, h2, h3⟩ := pv_facts 8 b v m h
  rcases checkV_cases v with ⟨_, e⟩ | ⟨_, _, e⟩ | ⟨_, _, _, e⟩ | ⟨_, _, h4, _⟩
  · omega
  · omega
  · omega
  · omega

set_option maxHeartbeats 1600000 in
theorem read_tree_no {A : Option Addr} {m c0 at_ : Nat} {v : Val} {deep : Int} {w : World} (hchk0 : checkV v ≠ 0) (hval : ∀ w1, Below w.heap.size w w1 → RdAt w1 (w.heap.size + 1 + 1 + 1) A m c0 0 8 →
      Calls Try.prog 76 #[.pointer (some ⟨w.heap.size + 1 + 1 + 1, 0, none⟩)] w1 (fun e w' => ∃ cs, e = .returned (.agg cs) ∧ VOwn w' (fun g => w1.heap.size ≤ g) v cs ∧ RdAt w' (w.heap.size + 1 + 1 + 1) A m c0 at_ deep ∧ Upd (fun x => x = w.heap.size + 1 + 1 + 1) w1 w')) :
    Calls Try.prog 70 #[.slice A m c0] w (fun e w' => e = .returned (.tuple #[.agg #[.int .i64 0, .int .i64 0, .float .f64 0, .string ⟨#[]⟩, .slice none 0 0], .int .i64 0, .int .i64 20]) ∧ Below w.heap.size w w') := by
  have hmf : ∀ (fn : Fn) (first cap : Array Value) (w : World), (Instr.makeFunc fn first cap).run Try.prog w = .ok (.func fn first cap) w := fun _ _ _ _ => rfl
  replace hval := Lib.hid hval
  replace hchk0 := Lib.hid hchk0
  go_enter_defers Try.func70, Try.ntmps70
  go_wp2_with fail
  obtain ⟨b0, b1, b2, b3, hb, he⟩ := readStart w A m c0
  have hv := hval.out _ hb b3
  clear hval
  unfold ReadStart at b0 b1 b2 b3 hb he hv
  refine hv.mono ?_
  clear hv
  generalize (((w.alloc (.cells #[.int .i64 0, .int .i64 0, .float .f64 0, .string ⟨#[]⟩, .slice none 0 0] 64)).alloc (.cells #[.int .i64 0] 3)).alloc (.cells #[.int .i64 0] 28)).alloc (.cells #[.slice A m c0, .int .i64 0, .int .i64 8] 134) = w4 at *
  rintro e w5 ⟨cs, rfl, hvo, hR, hu⟩
  obtain ⟨k, i, f, s, A', n', c', hform⟩ := hvo.reads.form
  subst hform
  dsimp only
  have c0' := b0.upd hu (by omega)
  have c1 := b1.upd hu (by omega)
  have c2 := b2.upd hu (by omega)
  have hb5 : Below w.heap.size w w5 := hb.trans (hu.below (by omega) (fun k hk => by omega))
  obtain ⟨z, hz⟩ : ∃ z, w.heap.size = z := ⟨_, rfl⟩
  obtain ⟨q, hq⟩ : ∃ q, w.heap.size + 1 = q := ⟨_, rfl⟩
  obtain ⟨t, ht⟩ : ∃ t, w.heap.size + 1 + 1 = t := ⟨_, rfl⟩
  obtain ⟨r, hr⟩ : ∃ r, w.heap.size + 1 + 1 + 1 = r := ⟨_, rfl⟩
  have hqz : z < q := by omega
  have htq : q < t := by omega
  have hrt : t < r := by omega
  rw [hr] at hR ⊢
  rw [ht] at c2 ⊢
  rw [hq] at c1 ⊢
  rw [hz] at c0' hb5 ⊢
  replace hvo := hvo.mono (Q := fun g => r < g) (fun g _ hg => by omega)
  have hzi := Lib.hid hz
  clear b0 b1 b2 b3 hb he hu hz hq ht hr
  clear w4
  have d0 := c0'.row #[.int .i64 k, .int .i64 i, .float .f64 f, .string s, .slice A' n' c']
  have d1 := c1.farRow (g := z) (by omega) #[.int .i64 k, .int .i64 i, .float .f64 f, .string s, .slice A' n' c']
  have d2 := c2.farRow (g := z) (by omega) #[.int .i64 k, .int .i64 i, .float .f64 f, .string s, .slice A' n' c']
  have d3 := Blk.farRow hR (g := z) (by omega) #[.int .i64 k, .int .i64 i, .float .f64 f, .string s, .slice A' n' c']
  have vo6 := hvo.upd ((Upd.refl (fun x => x = z) w5).setRow (g := z) (fun _ => rfl) #[.int .i64 k, .int .i64 i, .float .f64 f, .string s, .slice A' n' c']) (fun g hg e => by omega)
  have hb6 := below_row hb5 (Nat.le_refl z) #[.int .i64 k, .int .i64 i, .float .f64 f, .string s, .slice A' n' c']
  clear hR c1 c2 hb5
  go_wp2_with (refine store_row_gen rfl 64 _ _ rfl z #[.int .i64 k, .int .i64 i, .float .f64 f, .string s, .slice A' n' c'] rfl rfl 64 _ c0' (by kernel_rfl) rfl (by simp [Value.oneCell']) (fun w6 hw6 => ?_); rw [← hw6] at d0 d1 d2 d3 hb6 vo6; clear hw6 c0'; have x0 := d0.cell 0; have x1 := d0.cell 1; have x2 := d0.cell 2; have x3 := d0.cell 3; have x4 := d0.cell 4)
  have hck := val_check_any vo6.reads w6 (Below.refl _ _) (Nat.le_refl _)
  obtain ⟨x, hx⟩ : ∃ x, checkV v = x := ⟨_, rfl⟩
  rw [hx] at hck
  have hx0 : ((x : Int) == 0) = false := beq_eq_false_iff_ne.2 (by have := hchk0.out; rw [hx] at this; omega)
  refine hck.mono ?_
  clear hck
  rintro e w7 ⟨rfl, hb7⟩
  dsimp only
  clear x0 x1 x2 x3 x4
  have hz6 := d0.lt
  replace d0 := d0.below hb7 d0.lt
  replace d1 := d1.below hb7 d1.lt
  replace d2 := d2.below hb7 d2.lt
  have hb8 : Below z w w7 := hb6.trans (hb7.mono (Nat.le_of_lt hz6))
  clear d3 vo6 hb6 hb7 hx hchk0
  go_wp2_with fail
  refine (must_no w7).mono ?_
  rintro e w8 ⟨rfl, rfl⟩
  dsimp only
  go_wp2_with fail
  refine leaves_cons (f := 75) (args := #[.pointer (some ⟨z, 0, none⟩), .pointer (some ⟨q, 0, none⟩), .pointer (some ⟨t, 0, none⟩)]) (by simp) (by simp [go_sem]) ?_
  refine (catch_short _ _ _ _ _ _ _ d0 rfl d1 d2).mono ?_
  rintro e u' w'' ⟨rfl, rfl, d0, d1, d2, hu2⟩
  have x0 := d0.cell 0
  have x1 := d0.cell 1
  have x2 := d0.cell 2
  have x3 := d0.cell 3
  have x4 := d0.cell 4
  have x5 := d1.cell 0
  have x6 := d2.cell 0
  have hb6 : Below z w w'' := hb8.trans (hu2.below (by have := hb8.size; have := hzi.out; omega) (fun k hk => by omega))
  rw [← hzi.out] at hb6
  simp [Leaves, settle, results, Try.results70, go_sem, x0, x1, x2, x3, x4, x5, x6, hb6]

theorem wire_read_v {A : Option Addr} {c : Nat} {b : List UInt8} {w : World} (h : Reads w w.heap.size 1 A b.length (bys b)) (hA : A = none → c = 0) (hc : b.length ≤ c) (hl : b.length ≤ 1000000000) :
    Calls Try.prog 70 #[.slice A b.length c] w (RdRes w (rdV b)) := by
  cases hp : pv 8 b with
  | none => rw [rdV_none hp]; exact wire_read_all h hA hc hl none hp (fun _ _ e => by cases e)
  | some x =>
    obtain ⟨v, m⟩ := x
    by_cases hm : m ≤ 4096
    · rw [rdV_some hp hm]; exact wire_read_all h hA hc hl _ hp (fun v' m' e => by cases e; exact hm)
    · rw [rdV_big hp hm]
      have hk := pv_big hp hm
      cases A with
      | none =>
        have hb : b = [] := List.eq_nil_of_length_eq_zero (by have := hA rfl; omega)
        subst hb
        cases hp
      | some ad =>
        refine read_tree_no (at_ := m) (v := v) (deep := 8) hk (fun w1 hb hr => ?_)
        have hv := value_all (r := w.heap.size + 1 + 1 + 1) (B := w.heap.size) (by omega) hc hl 8 (by omega) w1 0 hr (h.below hb) (Nat.zero_le _)
        rw [List.drop_zero, hp] at hv
        refine hv.mono ?_
        rintro e w' ⟨cs, rfl, h1, h2, h3⟩
        rw [Nat.zero_add] at h2
        exact ⟨cs, rfl, h1, h2, h3⟩

end Go.Proofs.Ytlkokkbikkbaoaa
