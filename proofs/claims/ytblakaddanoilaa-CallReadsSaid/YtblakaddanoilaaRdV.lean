/- A value read, whatever its size; by the program and by the document. -/
import Derived.Test.YtblakaddanoilaaOpR
namespace Go.Proofs.Ytblakaddanoilaa
open Go.RowKit
set_option maxRecDepth 100000

/-- What the reading of a value comes to. -/
def rdV (b : List UInt8) : Option (Val × Nat) := match pv 8 b with
  | some (v, m) => if m ≤ 4096 then some (v, m) else none
  | none => none
theorem rdV_some {b : List UInt8} {v : Val} {m : Nat} (h : pv 8 b = some (v, m)) (hm : m ≤ 4096) : rdV b = some (v, m) := by unfold rdV; rw [h]; exact if_pos hm
theorem rdV_big {b : List UInt8} {v : Val} {m : Nat} (h : pv 8 b = some (v, m)) (hm : ¬ m ≤ 4096) : rdV b = none := by unfold rdV; rw [h]; exact if_neg hm
theorem rdV_none {b : List UInt8} (h : pv 8 b = none) : rdV b = none := by unfold rdV; rw [h]
theorem pv_big {b : List UInt8} {v : Val} {m : Nat} (h : pv 8 b = some (v, m)) (hm : ¬ m ≤ 4096) : checkV v ≠ 0 := by
  obtain ⟨h1, h2, h3⟩ := pv_facts 8 b v m h
  rcases checkV_cases v with ⟨_, e⟩ | ⟨_, _, e⟩ | ⟨_, _, _, e⟩ | ⟨_, _, h4, _⟩
  · omega
  · omega
  · omega
  · omega

set_option maxHeartbeats 1600000 in
theorem read_tree_no {A : Option Addr} {m c0 at_ : Nat} {v : Val} {deep : Int} {w : World} (hchk0 : checkV v ≠ 0) (hval : ∀ w1, Below w.heap.size w w1 → RdAt w1 (w.heap.size + 1 + 1 + 1) A m c0 0 8 →
      Calls Try.prog 86 #[.pointer (some ⟨w.heap.size + 1 + 1 + 1, 0, none⟩)] w1 (fun e w' => ∃ cs, e = .returned (.agg cs) ∧ VOwn w' (fun g => w1.heap.size ≤ g) v cs ∧ RdAt w' (w.heap.size + 1 + 1 + 1) A m c0 at_ deep ∧ Upd (fun x => x = w.heap.size + 1 + 1 + 1) w1 w')) :
    Calls Try.prog 66 #[.slice A m c0] w (fun e w' => e = .returned (.tuple #[.agg #[.int .i64 0, .int .i64 0, .float .f64 0, .string ⟨#[]⟩, .slice none 0 0], .int .i64 0, .int .i64 20]) ∧ Below w.heap.size w w') := by
  have hmf : ∀ (fn : Fn) (first cap : Array Value) (w : World), (Instr.makeFunc fn first cap).run Try.prog w = .ok (.func fn first cap) w := fun _ _ _ _ => rfl
  replace hval := Lib.hid hval
  replace hchk0 := Lib.hid hchk0
  go_enter_defers Try.func66, Try.ntmps66
  go_wp2_with fail
  obtain ⟨b0, b1, b2, b3, hb, he⟩ := readStart w A m c0
  have hv := hval.out _ hb b3
  clear hval
  unfold ReadStart at b0 b1 b2 b3 hb he hv
  refine hv.mono ?_
  clear hv
  generalize (((w.alloc (.cells #[.int .i64 0, .int .i64 0, .float .f64 0, .string ⟨#[]⟩, .slice none 0 0] 43)).alloc (.cells #[.int .i64 0] 3)).alloc (.cells #[.int .i64 0] 35)).alloc (.cells #[.slice A m c0, .int .i64 0, .int .i64 8] 125) = w4 at *
  rintro e w5 ⟨cs, rfl, hvo, hR, hu⟩
  obtain ⟨k, i, f, s, A', n', c', hform⟩ := hvo.reads.form
  subst hform
  dsimp only
  have c0' := b0.upd hu (by omega)
  have c1 := b1.upd hu (by omega)
  have c2 := b2.upd hu (by omega)
  have hb5 : Below w.heap.size w w5 := hb.trans (hu.below (by omega) (fun k hk => by omega))
  obtain ⟨z, hz⟩ : ∃ z, w.heap.size = z := ⟨_, rfl⟩
  obtain ⟨q, hq⟩ : ∃ q, w.heap.size + 1 = q := ⟨_, rfl⟩
  obtain ⟨t, ht⟩ : ∃ t, w.heap.size + 1 + 1 = t := ⟨_, rfl⟩
  obtain ⟨r, hr⟩ : ∃ r, w.heap.size + 1 + 1 + 1 = r := ⟨_, rfl⟩
  have hqz : z < q := by omega
  have htq : q < t := by omega
  have hrt : t < r := by omega
  rw [hr] at hR ⊢
  rw [ht] at c2 ⊢
  rw [hq] at c1 ⊢
  rw [hz] at c0' hb5 ⊢
  replace hvo := hvo.mono (Q := fun g => r < g) (fun g _ hg => by omega)
  have hzi := Lib.hid hz
  clear b0 b1 b2 b3 hb he hu hz hq ht hr
  clear w4
  have d0 := c0'.row #[.int .i64 k, .int .i64 i, .float .f64 f, .string s, .slice A' n' c']
  have d1 := c1.farRow (g := z) (by omega) #[.int .i64 k, .int .i64 i, .float .f64 f, .string s, .slice A' n' c']
  have d2 := c2.farRow (g := z) (by omega) #[.int .i64 k, .int .i64 i, .float .f64 f, .string s, .slice A' n' c']
  have d3 := Blk.farRow hR (g := z) (by omega) #[.int .i64 k, .int .i64 i, .float .f64 f, .string s, .slice A' n' c']
  have vo6 := hvo.upd ((Upd.refl (fun x => x = z) w5).setRow (g := z) (fun _ => rfl) #[.int .i64 k, .int .i64 i, .float .f64 f, .string s, .slice A' n' c']) (fun g hg e => by omega)
  have hb6 := below_row hb5 (Nat.le_refl z) #[.int .i64 k, .int .i64 i, .float .f64 f, .string s, .slice A' n' c']
  clear hR c1 c2 hb5
  go_wp2_with (refine store_row_gen rfl 43 _ _ rfl z #[.int .i64 k, .int .i64 i, .float .f64 f, .string s, .slice A' n' c'] rfl rfl 43 _ c0' (by kernel_rfl) rfl (by simp [Value.oneCell']) (fun w6 hw6 => ?_); rw [← hw6] at d0 d1 d2 d3 hb6 vo6; clear hw6 c0'; have x0 := d0.cell 0; have x1 := d0.cell 1; have x2 := d0.cell 2; have x3 := d0.cell 3; have x4 := d0.cell 4)
  have hck := val_check_any vo6.reads w6 (Below.refl _ _) (Nat.le_refl _)
  obtain ⟨x, hx⟩ : ∃ x, checkV v = x := ⟨_, rfl⟩
  rw [hx] at hck
  have hx0 : ((x : Int) == 0) = false := beq_eq_false_iff_ne.2 (by have := hchk0.out; rw [hx] at this; omega)
  refine hck.mono ?_
  clear hck
  rintro e w7 ⟨rfl, hb7⟩
  dsimp only
  clear x0 x1 x2 x3 x4
  have hz6 := d0.lt
  replace d0 := d0.below hb7 d0.lt
  replace d1 := d1.below hb7 d1.lt
  replace d2 := d2.below hb7 d2.lt
  have hb8 : Below z w w7 := hb6.trans (hb7.mono (Nat.le_of_lt hz6))
  clear d3 vo6 hb6 hb7 hx hchk0
  go_wp2_with fail
  refine (must_no w7).mono ?_
  rintro e w8 ⟨rfl, rfl⟩
  dsimp only
  go_wp2_with fail
  refine leaves_cons (f := 85) (args := #[.pointer (some ⟨z, 0, none⟩), .pointer (some ⟨q, 0, none⟩), .pointer (some ⟨t, 0, none⟩)]) (by simp) (by simp [go_sem]) ?_
  refine (catch_short _ _ _ _ _ _ _ d0 rfl d1 d2).mono ?_
  rintro e u' w'' ⟨rfl, rfl, d0, d1, d2, hu2⟩
  have x0 := d0.cell 0
  have x1 := d0.cell 1
  have x2 := d0.cell 2
  have x3 := d0.cell 3
  have x4 := d0.cell 4
  have x5 := d1.cell 0
  have x6 := d2.cell 0
  have hb6 : Below z w w'' := hb8.trans (hu2.below (by have := hb8.size; have := hzi.out; omega) (fun k hk => by omega))
  rw [← hzi.out] at hb6
  simp [Leaves, settle, results, Try.results66, go_sem, x0, x1, x2, x3, x4, x5, x6, hb6]

theorem wire_read_v {A : Option Addr} {c : Nat} {b : List UInt8} {w : World} (h : Reads w w.heap.size 1 A b.length (bys b)) (hA : A = none → c = 0) (hc : b.length ≤ c) (hl : b.length ≤ 1000000000) :
    Calls Try.prog 66 #[.slice A b.length c] w (RdRes w (rdV b)) := by
  cases hp : pv 8 b with
  | none => rw [rdV_none hp]; exact wire_read_all h hA hc hl none hp (fun _ _ e => by cases e)
  | some x =>
    obtain ⟨v, m⟩ := x
    by_cases hm : m ≤ 4096
    · rw [rdV_some hp hm]; exact wire_read_all h hA hc hl _ hp (fun v' m' e => by cases e; exact hm)
    · rw [rdV_big hp hm]
      have hk := pv_big hp hm
      cases A with
      | none =>
        have hb : b = [] := List.eq_nil_of_length_eq_zero (by have := hA rfl; omega)
        subst hb
        cases hp
      | some ad =>
        refine read_tree_no (at_ := m) (v := v) (deep := 8) hk (fun w1 hb hr => ?_)
        have hv := value_all (r := w.heap.size + 1 + 1 + 1) (B := w.heap.size) (by omega) hc hl 8 (by omega) w1 0 hr (h.below hb) (Nat.zero_le _)
        rw [List.drop_zero, hp] at hv
        refine hv.mono ?_
        rintro e w' ⟨cs, rfl, h1, h2, h3⟩
        rw [Nat.zero_add] at h2
        exact ⟨cs, rfl, h1, h2, h3⟩

set_option maxHeartbeats 1600000 in
theorem ref_read_v {A : Option Addr} {c : Nat} {b : List UInt8} {w : World} (h : Reads w w.heap.size 1 A b.length (bys b)) (hc : b.length ≤ c) (hl : b.length ≤ 1000000000) :
    Calls Try.prog 41 #[.slice A b.length c] w (RdRes w (rdV b)) := by
  obtain ⟨o, ho⟩ : ∃ o, rdV b = o := ⟨_, rfl⟩
  rw [ho]
  have hsf := fun a k x m w => run_store_float (P := Try.prog) a k x m w
  have hrd := fun (w1 : World) (hb : Below w.heap.size w w1) => ref_read_all 9 (by omega) w1 A c b ((h.below hb).more hb.size) hc hl
  rw [show (9 : Int) - ((9 : Nat) : Int) = 0 from rfl] at hrd
  obtain ⟨t1, t2⟩ := pv_two 8 b
  have hcase : (∃ v m, o = some (v, m) ∧ pvE 9 b = some (v, m) ∧ checkV v = 0) ∨ (o = none ∧ pvE 9 b = none) ∨ (o = none ∧ ∃ v m, pvE 9 b = some (v, m) ∧ checkV v ≠ 0) := by
    cases hp : pv 8 b with
    | some x =>
      obtain ⟨v, m⟩ := x
      have hq := t1 v m hp
      by_cases hm : m ≤ 4096
      · exact .inl ⟨v, m, by rw [← ho]; exact rdV_some hp hm, hq, (pv_check hp hm).1⟩
      · exact .inr (.inr ⟨by rw [← ho]; exact rdV_big hp hm, v, m, hq, pv_big hp hm⟩)
    | none =>
      have ho' : o = none := by rw [← ho]; exact rdV_none hp
      rcases t2 hp with h1 | ⟨v, m, h1, h2⟩
      · exact .inr (.inl ⟨ho', h1⟩)
      · refine .inr (.inr ⟨ho', v, m, h1, ?_⟩)
        have h2' : greatV v 8 = true := h2
        rcases checkV_cases v with ⟨_, e⟩ | ⟨_, _, e⟩ | ⟨_, e1, _, e⟩ | ⟨_, e1, _, e⟩
        · omega
        · omega
        · omega
        · rw [h2'] at e1; cases e1
  clear t1 t2 ho h
  replace hrd := Lib.hid hrd
  have hz := Blk.new w 43 #[.int .i64 0, .int .i64 0, .float .f64 0, .string ⟨#[]⟩, .slice none 0 0]
  have hb4 := (Below.refl w.heap.size w).alloc (Nat.le_refl _) (.cells #[.int .i64 0, .int .i64 0, .float .f64 0, .string ⟨#[]⟩, .slice none 0 0] 43)
  have hr1 := hrd.out _ hb4
  replace hb4 := Lib.hid hb4
  replace hz := Lib.hid hz
  go_enter Try.func41, Try.ntmps41
  go_wp2_with fail
  refine hr1.mono ?_
  clear hr1 hrd
  replace hb4 := hb4.out
  replace hz := hz.out
  generalize hw2 : w.alloc (.cells #[.int .i64 0, .int .i64 0, .float .f64 0, .string ⟨#[]⟩, .slice none 0 0] 43) = w2 at *
  replace hw2 := Lib.hid hw2
  rcases hcase with ⟨v, m, rfl, h1, hk⟩ | ⟨rfl, h1⟩ | ⟨rfl, v, m, h1, hk⟩
  · rw [h1]
    rintro e w6 ⟨cs, rfl, hv, hb6⟩
    dsimp only
    obtain ⟨k', i', f', s', A', n', c9, hform⟩ := hv.reads.form
    have hvr := hv.reads
    subst hform
    have hz6 := (hz.below hb6 hz.lt).alloc (.cells #[.int .i64 k', .int .i64 i', .float .f64 f', .string s', .slice A' n' c9] 43)
    have hb7 := (hb4.trans (hb6.mono hb4.size)).alloc (Nat.le_trans hb4.size hb6.size) (.cells #[.int .i64 k', .int .i64 i', .float .f64 f', .string s', .slice A' n' c9] 43)
    have hbv := Blk.new w6 43 #[.int .i64 k', .int .i64 i', .float .f64 f', .string s', .slice A' n' c9]
    have hv7 := hv.upd ((Upd.refl (fun _ => False) w6).alloc (.cells #[.int .i64 k', .int .i64 i', .float .f64 f', .string s', .slice A' n' c9] 43)) (fun _ _ h => h)
    have hck := ref_check hvr (w6.alloc (.cells #[.int .i64 k', .int .i64 i', .float .f64 f', .string s', .slice A' n' c9] 43)) ((Below.refl _ w6).alloc (Nat.le_refl _) _) (by simp)
    rw [hk] at hck
    have v0 := hbv.cell 0
    have v1 := hbv.cell 1
    have v2 := hbv.cell 2
    have v3 := hbv.cell 3
    have v4 := hbv.cell 4
    have hw6 : w.heap.size < w6.heap.size := Nat.lt_of_lt_of_le hz.lt hb6.size
    go_wp2_with fail
    refine hck.mono ?_
    clear hck
    rintro e w8 ⟨rfl, hb8⟩
    dsimp only
    have v0' := cell_keep hb8 v0
    have v1' := cell_keep hb8 v1
    have v2' := cell_keep hb8 v2
    have v3' := cell_keep hb8 v3
    have v4' := cell_keep hb8 v4
    have hz8 := hz6.below hb8 hz6.lt
    have hb9 := hb7.trans (hb8.mono hb7.size)
    have hv8 := hv7.upd (Upd.of_below_size (S := fun _ => False) hb8) (fun _ _ h => h)
    have hz9 := hz8.row #[.int .i64 k', .int .i64 i', .float .f64 f', .string s', .slice A' n' c9]
    have hb10 := below_row hb9 (g := w.heap.size) (Nat.le_refl _) #[.int .i64 k', .int .i64 i', .float .f64 f', .string s', .slice A' n' c9]
    have hv9 := hv8.upd ((Upd.refl (fun x => x = w.heap.size) w8).setRow (g := w.heap.size) (fun _ => rfl) #[.int .i64 k', .int .i64 i', .float .f64 f', .string s', .slice A' n' c9]) (fun g hg e => by have := hz.lt; omega)
    clear v0 v1 v2 v3 v4 hz6 hb7 hv7 hbv hvr hb8 hv8 hb9
    go_wp2_with (refine store_row_gen rfl 43 (Operand.tmp 2) _ rfl w.heap.size #[.int .i64 k', .int .i64 i', .float .f64 f', .string s', .slice A' n' c9] rfl rfl 43 _ hz8 (by kernel_rfl) rfl (by simp [Value.oneCell']) (fun w6 hw6 => ?_); rw [← hw6] at hz9 hb10 hv9; clear hw6)
    refine bodyPost_ret (v := .tuple #[.agg #[.int .i64 k', .int .i64 i', .float .f64 f', .string s', .slice A' n' c9], .int .i64 (m : Int), .int .i64 0]) ?hr rfl ?_
    case hr => exact results_ctt rfl _ _ w.heap.size 43 _ (0, 0) _ _ _ rfl rfl rfl hz9 Try.underlying43 rfl (by kernel_rfl)
    exact ⟨_, rfl, hv9.mono (fun g _ hg => by have := hz.lt; omega), hb10⟩
  · rw [h1]
    rintro e w6 ⟨k', i', f', s', A', n', c9, z, rfl, hb6⟩
    dsimp only
    have hz6 := (hz.below hb6 hz.lt).alloc (.cells #[.int .i64 k', .int .i64 i', .float .f64 f', .string s', .slice A' n' c9] 43)
    have hb7 := (hb4.trans (hb6.mono hb4.size)).alloc (Nat.le_trans hb4.size hb6.size) (.cells #[.int .i64 k', .int .i64 i', .float .f64 f', .string s', .slice A' n' c9] 43)
    have hz9 := hz6.row #[.int .i64 0, .int .i64 0, .float .f64 0, .string ⟨#[]⟩, .slice none 0 0]
    have hb10 := below_row hb7 (g := w.heap.size) (Nat.le_refl _) #[.int .i64 0, .int .i64 0, .float .f64 0, .string ⟨#[]⟩, .slice none 0 0]
    go_wp2_with (refine store_row_gen rfl 43 (Operand.tmp 2) _ rfl w.heap.size #[.int .i64 0, .int .i64 0, .float .f64 0, .string ⟨#[]⟩, .slice none 0 0] (by simp [go_sem]) (by simp [go_sem]) 43 _ hz6 (by kernel_rfl) rfl (by simp [Value.oneCell']) (fun w6 hw6 => ?_); rw [← hw6] at hz9 hb10; clear hw6)
    refine bodyPost_ret (v := .tuple #[.agg #[.int .i64 0, .int .i64 0, .float .f64 0, .string ⟨#[]⟩, .slice none 0 0], .int .i64 0, .int .i64 20]) ?hr rfl ?_
    case hr => exact results_ctt rfl _ _ w.heap.size 43 _ (0, 0) _ _ _ rfl rfl rfl hz9 Try.underlying43 rfl (by kernel_rfl)
    exact ⟨rfl, hb10⟩
  · rw [h1]
    rintro e w6 ⟨cs, rfl, hv, hb6⟩
    dsimp only
    obtain ⟨k', i', f', s', A', n', c9, hform⟩ := hv.reads.form
    have hvr := hv.reads
    subst hform
    have hz6 := (hz.below hb6 hz.lt).alloc (.cells #[.int .i64 k', .int .i64 i', .float .f64 f', .string s', .slice A' n' c9] 43)
    have hb7 := (hb4.trans (hb6.mono hb4.size)).alloc (Nat.le_trans hb4.size hb6.size) (.cells #[.int .i64 k', .int .i64 i', .float .f64 f', .string s', .slice A' n' c9] 43)
    have hbv := Blk.new w6 43 #[.int .i64 k', .int .i64 i', .float .f64 f', .string s', .slice A' n' c9]
    have hck := ref_check hvr (w6.alloc (.cells #[.int .i64 k', .int .i64 i', .float .f64 f', .string s', .slice A' n' c9] 43)) ((Below.refl _ w6).alloc (Nat.le_refl _) _) (by simp)
    have hne : ((checkV v : Int) != 0) = true := by rw [bne_iff_ne]; omega
    generalize checkV v = x at hck hne
    have v0 := hbv.cell 0
    have v1 := hbv.cell 1
    have v2 := hbv.cell 2
    have v3 := hbv.cell 3
    have v4 := hbv.cell 4
    have hw6 : w.heap.size < w6.heap.size := Nat.lt_of_lt_of_le hz.lt hb6.size
    clear hk
    go_wp2_with fail
    refine hck.mono ?_
    clear hck
    rintro e w8 ⟨rfl, hb8⟩
    dsimp only
    have hz8 := hz6.below hb8 hz6.lt
    have hb9 := hb7.trans (hb8.mono hb7.size)
    have hz9 := hz8.row #[.int .i64 0, .int .i64 0, .float .f64 0, .string ⟨#[]⟩, .slice none 0 0]
    have hb10 := below_row hb9 (g := w.heap.size) (Nat.le_refl _) #[.int .i64 0, .int .i64 0, .float .f64 0, .string ⟨#[]⟩, .slice none 0 0]
    clear v0 v1 v2 v3 v4 hz6 hb7 hbv hvr hb8 hb9
    go_wp2_with (refine store_row_gen rfl 43 (Operand.tmp 2) _ rfl w.heap.size #[.int .i64 0, .int .i64 0, .float .f64 0, .string ⟨#[]⟩, .slice none 0 0] (by simp [go_sem]) (by simp [go_sem]) 43 _ hz8 (by kernel_rfl) rfl (by simp [Value.oneCell']) (fun w6 hw6 => ?_); rw [← hw6] at hz9 hb10; clear hw6)
    refine bodyPost_ret (v := .tuple #[.agg #[.int .i64 0, .int .i64 0, .float .f64 0, .string ⟨#[]⟩, .slice none 0 0], .int .i64 0, .int .i64 20]) ?hr rfl ?_
    case hr => exact results_ctt rfl _ _ w.heap.size 43 _ (0, 0) _ _ _ rfl rfl rfl hz9 Try.underlying43 rfl (by kernel_rfl)
    exact ⟨rfl, hb10⟩
end Go.Proofs.Ytblakaddanoilaa
