/- A value read, whatever its size; by the program and by the document. -/
import Derived.Test.YtjljlgkghlphnaaB3
import Derived.Test.YtjljlgkghlphnaaB1
import Derived.Deep.CutRange
import Derived.Deep.MidRow
set_option linter.unusedSimpArgs false
set_option linter.unusedVariables false
namespace Go.Proofs.Ytjljlgkghlphnaa
open Go.RowKit
set_option maxRecDepth 100000

/-- What the reading of a value comes to. -/
def rdV (b : List UInt8) : Option (Val × Nat) := match pv 8 b with
  | some (v, m) => if m ≤ 4096 then some (v, m) else none
  | none => none
theorem rdV_some {b : List UInt8} {v : Val} {m : Nat} (h : pv 8 b = some (v, m)) (hm : m ≤ 4096) : rdV b = some (v, m) := by unfold rdV; rw [h]; exact if_pos hm
theorem rdV_big {b : List UInt8} {v : Val} {m : Nat} (h : pv 8 b = some (v, m)) (hm : ¬ m ≤ 4096) : rdV b = none := by unfold rdV; rw [h]; exact if_neg hm
theorem rdV_none {b : List UInt8} (h : pv 8 b = none) : rdV b = none := by unfold rdV; rw [h]
theorem pv_big {b : List UInt8} {v : Val} {m : Nat} (h : pv 8 b = some (v, m)) (hm : ¬ m ≤ 4096) : checkV v ≠ 0 := by
  obtain ⟨h1, h2, h3⟩ := pv_facts 8 b v m h
  rcases checkV_cases v with ⟨_, e⟩ | ⟨_, _, e⟩ | ⟨_, _, _, e⟩ | ⟨_, _, h4, _⟩
  · omega
  · omega
  · omega
  · omega

set_option maxHeartbeats 1600000 in
theorem read_tree_no {A : Option Addr} {m c0 at_ : Nat} {v : Val} {deep : Int} {w : World} (hchk0 : checkV v ≠ 0) (hval : ∀ w1, Below w.heap.size w w1 → RdAt w1 (w.heap.size + 1 + 1 + 1) A m c0 0 8 →
      Calls Try.prog 111 #[.pointer (some ⟨w.heap.size + 1 + 1 + 1, 0, none⟩)] w1 (fun e w' => ∃ cs, e = .returned (.agg cs) ∧ VOwn w' (fun g => w1.heap.size ≤ g) v cs ∧ RdAt w' (w.heap.size + 1 + 1 + 1) A m c0 at_ deep ∧ Upd (fun x => x = w.heap.size + 1 + 1 + 1) w1 w')) :
    Calls Try.prog 102 #[.slice A m c0] w (fun e w' => e = .returned (.tuple #[.agg #[.int .i64 0, .int .i64 0, .float .f64 0, .string ⟨#[]⟩, .slice none 0 0], .int .i64 0, .int .i64 20]) ∧ Below w.heap.size w w') := by
  have hmf : ∀ (fn : Fn) (first cap : Array Value) (w : World), (Instr.makeFunc fn first cap).run Try.prog w = .ok (.func fn first cap) w := fun _ _ _ _ => rfl
  replace hval := Lib.hid hval
  replace hchk0 := Lib.hid hchk0
  go_enter_defers Try.func102, Try.ntmps102
  go_wp2_with fail
  obtain ⟨b0, b1, b2, b3, hb, he⟩ := readStart w A m c0
  have hv := hval.out _ hb b3
  clear hval
  unfold ReadStart at b0 b1 b2 b3 hb he hv
  refine hv.mono ?_
  clear hv
  generalize (((w.alloc (.cells #[.int .i64 0, .int .i64 0, .float .f64 0, .string ⟨#[]⟩, .slice none 0 0] 110)).alloc (.cells #[.int .i64 0] 3)).alloc (.cells #[.int .i64 0] 36)).alloc (.cells #[.slice A m c0, .int .i64 0, .int .i64 8] 173) = w4 at *
  rintro e w5 ⟨cs, rfl, hvo, hR, hu⟩
  obtain ⟨k, i, f, s, A', n', c', hform⟩ := hvo.reads.form
  subst hform
  dsimp only
  have c0' := b0.upd hu (by omega)
  have c1 := b1.upd hu (by omega)
  have c2 := b2.upd hu (by omega)
  have hb5 : Below w.heap.size w w5 := hb.trans (hu.below (by omega) (fun k hk => by omega))
  obtain ⟨z, hz⟩ : ∃ z, w.heap.size = z := ⟨_, rfl⟩
  obtain ⟨q, hq⟩ : ∃ q, w.heap.size + 1 = q := ⟨_, rfl⟩
  obtain ⟨t, ht⟩ : ∃ t, w.heap.size + 1 + 1 = t := ⟨_, rfl⟩
  obtain ⟨r, hr⟩ : ∃ r, w.heap.size + 1 + 1 + 1 = r := ⟨_, rfl⟩
  have hqz : z < q := by omega
  have htq : q < t := by omega
  have hrt : t < r := by omega
  rw [hr] at hR ⊢
  rw [ht] at c2 ⊢
  rw [hq] at c1 ⊢
  rw [hz] at c0' hb5 ⊢
  replace hvo := hvo.mono (Q := fun g => r < g) (fun g _ hg => by omega)
  have hzi := Lib.hid hz
  clear b0 b1 b2 b3 hb he hu hz hq ht hr
  clear w4
  have d0 := c0'.row #[.int .i64 k, .int .i64 i, .float .f64 f, .string s, .slice A' n' c']
  have d1 := c1.farRow (g := z) (by omega) #[.int .i64 k, .int .i64 i, .float .f64 f, .string s, .slice A' n' c']
  have d2 := c2.farRow (g := z) (by omega) #[.int .i64 k, .int .i64 i, .float .f64 f, .string s, .slice A' n' c']
  have d3 := Blk.farRow hR (g := z) (by omega) #[.int .i64 k, .int .i64 i, .float .f64 f, .string s, .slice A' n' c']
  have vo6 := hvo.upd ((Upd.refl (fun x => x = z) w5).setRow (g := z) (fun _ => rfl) #[.int .i64 k, .int .i64 i, .float .f64 f, .string s, .slice A' n' c']) (fun g hg e => by omega)
  have hb6 := below_row hb5 (Nat.le_refl z) #[.int .i64 k, .int .i64 i, .float .f64 f, .string s, .slice A' n' c']
  clear hR c1 c2 hb5
  go_wp2_with (refine store_row_gen rfl 110 _ _ rfl z #[.int .i64 k, .int .i64 i, .float .f64 f, .string s, .slice A' n' c'] rfl rfl 110 _ c0' (by kernel_rfl) rfl (by simp [Value.oneCell']) (fun w6 hw6 => ?_); rw [← hw6] at d0 d1 d2 d3 hb6 vo6; clear hw6 c0'; have x0 := d0.cell 0; have x1 := d0.cell 1; have x2 := d0.cell 2; have x3 := d0.cell 3; have x4 := d0.cell 4)
  have hck := val_check_any vo6.reads w6 (Below.refl _ _) (Nat.le_refl _)
  obtain ⟨x, hx⟩ : ∃ x, checkV v = x := ⟨_, rfl⟩
  rw [hx] at hck
  have hx0 : ((x : Int) == 0) = false := beq_eq_false_iff_ne.2 (by have := hchk0.out; rw [hx] at this; omega)
  refine hck.mono ?_
  clear hck
  rintro e w7 ⟨rfl, hb7⟩
  dsimp only
  clear x0 x1 x2 x3 x4
  have hz6 := d0.lt
  replace d0 := d0.below hb7 d0.lt
  replace d1 := d1.below hb7 d1.lt
  replace d2 := d2.below hb7 d2.lt
  have hb8 : Below z w w7 := hb6.trans (hb7.mono (Nat.le_of_lt hz6))
  clear d3 vo6 hb6 hb7 hx hchk0
  go_wp2_with fail
  refine (must_no w7).mono ?_
  rintro e w8 ⟨rfl, rfl⟩
  dsimp only
  go_wp2_with fail
  refine leaves_cons (f := 110) (args := #[.pointer (some ⟨z, 0, none⟩), .pointer (some ⟨q, 0, none⟩), .pointer (some ⟨t, 0, none⟩)]) (by simp) (by simp [go_sem]) ?_
  refine (catch_short _ _ _ _ _ _ _ d0 rfl d1 d2).mono ?_
  rintro e u' w'' ⟨rfl, rfl, d0, d1, d2, hu2⟩
  have x0 := d0.cell 0
  have x1 := d0.cell 1
  have x2 := d0.cell 2
  have x3 := d0.cell 3
  have x4 := d0.cell 4
  have x5 := d1.cell 0
  have x6 := d2.cell 0
  have hb6 : Below z w w'' := hb8.trans (hu2.below (by have := hb8.size; have := hzi.out; omega) (fun k hk => by omega))
  rw [← hzi.out] at hb6
  simp [Leaves, settle, results, Try.results102, go_sem, x0, x1, x2, x3, x4, x5, x6, hb6]

theorem wire_read_v {A : Option Addr} {c : Nat} {b : List UInt8} {w : World} (h : Reads w w.heap.size 1 A b.length (bys b)) (hA : A = none → c = 0) (hc : b.length ≤ c) (hl : b.length ≤ 1000000000) :
    Calls Try.prog 102 #[.slice A b.length c] w (RdRes w (rdV b)) := by
  cases hp : pv 8 b with
  | none => rw [rdV_none hp]; exact wire_read_all h hA hc hl none hp (fun _ _ e => by cases e)
  | some x =>
    obtain ⟨v, m⟩ := x
    by_cases hm : m ≤ 4096
    · rw [rdV_some hp hm]; exact wire_read_all h hA hc hl _ hp (fun v' m' e => by cases e; exact hm)
    · rw [rdV_big hp hm]
      have hk := pv_big hp hm
      cases A with
      | none =>
        have hb : b = [] := List.eq_nil_of_length_eq_zero (by have := hA rfl; omega)
        subst hb
        cases hp
      | some ad =>
        refine read_tree_no (at_ := m) (v := v) (deep := 8) hk (fun w1 hb hr => ?_)
        have hv := value_all (r := w.heap.size + 1 + 1 + 1) (B := w.heap.size) (by omega) hc hl 8 (by omega) w1 0 hr (h.below hb) (Nat.zero_le _)
        rw [List.drop_zero, hp] at hv
        refine hv.mono ?_
        rintro e w' ⟨cs, rfl, h1, h2, h3⟩
        rw [Nat.zero_add] at h2
        exact ⟨cs, rfl, h1, h2, h3⟩

set_option maxHeartbeats 1600000 in
theorem ref_read_v {A : Option Addr} {c : Nat} {b : List UInt8} {w : World} (h : Reads w w.heap.size 1 A b.length (bys b)) (hc : b.length ≤ c) (hl : b.length ≤ 1000000000) :
    Calls Try.prog 62 #[.slice A b.length c] w (RdRes w (rdV b)) := by
  obtain ⟨o, ho⟩ : ∃ o, rdV b = o := ⟨_, rfl⟩
  rw [ho]
  have hsf := fun a k x m w => run_store_float (P := Try.prog) a k x m w
  have hrd := fun (w1 : World) (hb : Below w.heap.size w w1) => ref_read_all 9 (by omega) w1 A c b ((h.below hb).more hb.size) hc hl
  rw [show (9 : Int) - ((9 : Nat) : Int) = 0 from rfl] at hrd
  obtain ⟨t1, t2⟩ := pv_two 8 b
  have hcase : (∃ v m, o = some (v, m) ∧ pvE 9 b = some (v, m) ∧ checkV v = 0) ∨ (o = none ∧ pvE 9 b = none) ∨ (o = none ∧ ∃ v m, pvE 9 b = some (v, m) ∧ checkV v ≠ 0) := by
    cases hp : pv 8 b with
    | some x =>
      obtain ⟨v, m⟩ := x
      have hq := t1 v m hp
      by_cases hm : m ≤ 4096
      · exact .inl ⟨v, m, by rw [← ho]; exact rdV_some hp hm, hq, (pv_check hp hm).1⟩
      · exact .inr (.inr ⟨by rw [← ho]; exact rdV_big hp hm, v, m, hq, pv_big hp hm⟩)
    | none =>
      have ho' : o = none := by rw [← ho]; exact rdV_none hp
      rcases t2 hp with h1 | ⟨v, m, h1, h2⟩
      · exact .inr (.inl ⟨ho', h1⟩)
      · refine .inr (.inr ⟨ho', v, m, h1, ?_⟩)
        have h2' : greatV v 8 = true := h2
        rcases checkV_cases v with ⟨_, e⟩ | ⟨_, _, e⟩ | ⟨_, e1, _, e⟩ | ⟨_, e1, _, e⟩
        · omega
        · omega
        · omega
        · rw [h2'] at e1; cases e1
  clear t1 t2 ho h
  replace hrd := Lib.hid hrd
  have hz := Blk.new w 110 #[.int .i64 0, .int .i64 0, .float .f64 0, .string ⟨#[]⟩, .slice none 0 0]
  have hb4 := (Below.refl w.heap.size w).alloc (Nat.le_refl _) (.cells #[.int .i64 0, .int .i64 0, .float .f64 0, .string ⟨#[]⟩, .slice none 0 0] 110)
  have hr1 := hrd.out _ hb4
  replace hb4 := Lib.hid hb4
  replace hz := Lib.hid hz
  go_enter Try.func62, Try.ntmps62
  go_wp2_with fail
  refine hr1.mono ?_
  clear hr1 hrd
  replace hb4 := hb4.out
  replace hz := hz.out
  generalize hw2 : w.alloc (.cells #[.int .i64 0, .int .i64 0, .float .f64 0, .string ⟨#[]⟩, .slice none 0 0] 110) = w2 at *
  replace hw2 := Lib.hid hw2
  rcases hcase with ⟨v, m, rfl, h1, hk⟩ | ⟨rfl, h1⟩ | ⟨rfl, v, m, h1, hk⟩
  · rw [h1]
    rintro e w6 ⟨cs, rfl, hv, hb6⟩
    dsimp only
    obtain ⟨k', i', f', s', A', n', c9, hform⟩ := hv.reads.form
    have hvr := hv.reads
    subst hform
    have hz6 := (hz.below hb6 hz.lt).alloc (.cells #[.int .i64 k', .int .i64 i', .float .f64 f', .string s', .slice A' n' c9] 110)
    have hb7 := (hb4.trans (hb6.mono hb4.size)).alloc (Nat.le_trans hb4.size hb6.size) (.cells #[.int .i64 k', .int .i64 i', .float .f64 f', .string s', .slice A' n' c9] 110)
    have hbv := Blk.new w6 110 #[.int .i64 k', .int .i64 i', .float .f64 f', .string s', .slice A' n' c9]
    have hv7 := hv.upd ((Upd.refl (fun _ => False) w6).alloc (.cells #[.int .i64 k', .int .i64 i', .float .f64 f', .string s', .slice A' n' c9] 110)) (fun _ _ h => h)
    have hck := ref_check hvr (w6.alloc (.cells #[.int .i64 k', .int .i64 i', .float .f64 f', .string s', .slice A' n' c9] 110)) ((Below.refl _ w6).alloc (Nat.le_refl _) _) (by simp)
    rw [hk] at hck
    have v0 := hbv.cell 0
    have v1 := hbv.cell 1
    have v2 := hbv.cell 2
    have v3 := hbv.cell 3
    have v4 := hbv.cell 4
    have hw6 : w.heap.size < w6.heap.size := Nat.lt_of_lt_of_le hz.lt hb6.size
    go_wp2_with fail
    refine hck.mono ?_
    clear hck
    rintro e w8 ⟨rfl, hb8⟩
    dsimp only
    have v0' := cell_keep hb8 v0
    have v1' := cell_keep hb8 v1
    have v2' := cell_keep hb8 v2
    have v3' := cell_keep hb8 v3
    have v4' := cell_keep hb8 v4
    have hz8 := hz6.below hb8 hz6.lt
    have hb9 := hb7.trans (hb8.mono hb7.size)
    have hv8 := hv7.upd (Upd.of_below_size (S := fun _ => False) hb8) (fun _ _ h => h)
    have hz9 := hz8.row #[.int .i64 k', .int .i64 i', .float .f64 f', .string s', .slice A' n' c9]
    have hb10 := below_row hb9 (g := w.heap.size) (Nat.le_refl _) #[.int .i64 k', .int .i64 i', .float .f64 f', .string s', .slice A' n' c9]
    have hv9 := hv8.upd ((Upd.refl (fun x => x = w.heap.size) w8).setRow (g := w.heap.size) (fun _ => rfl) #[.int .i64 k', .int .i64 i', .float .f64 f', .string s', .slice A' n' c9]) (fun g hg e => by have := hz.lt; omega)
    clear v0 v1 v2 v3 v4 hz6 hb7 hv7 hbv hvr hb8 hv8 hb9
    go_wp2_with (refine store_row_gen rfl 110 (Operand.tmp 2) _ rfl w.heap.size #[.int .i64 k', .int .i64 i', .float .f64 f', .string s', .slice A' n' c9] rfl rfl 110 _ hz8 (by kernel_rfl) rfl (by simp [Value.oneCell']) (fun w6 hw6 => ?_); rw [← hw6] at hz9 hb10 hv9; clear hw6)
    refine bodyPost_ret (v := .tuple #[.agg #[.int .i64 k', .int .i64 i', .float .f64 f', .string s', .slice A' n' c9], .int .i64 (m : Int), .int .i64 0]) ?hr rfl ?_
    case hr => exact results_ctt rfl _ _ w.heap.size 110 _ (0, 0) _ _ _ rfl rfl rfl hz9 Try.underlying110 rfl (by kernel_rfl)
    exact ⟨_, rfl, hv9.mono (fun g _ hg => by have := hz.lt; omega), hb10⟩
  · rw [h1]
    rintro e w6 ⟨k', i', f', s', A', n', c9, z, rfl, hb6⟩
    dsimp only
    have hz6 := (hz.below hb6 hz.lt).alloc (.cells #[.int .i64 k', .int .i64 i', .float .f64 f', .string s', .slice A' n' c9] 110)
    have hb7 := (hb4.trans (hb6.mono hb4.size)).alloc (Nat.le_trans hb4.size hb6.size) (.cells #[.int .i64 k', .int .i64 i', .float .f64 f', .string s', .slice A' n' c9] 110)
    have hz9 := hz6.row #[.int .i64 0, .int .i64 0, .float .f64 0, .string ⟨#[]⟩, .slice none 0 0]
    have hb10 := below_row hb7 (g := w.heap.size) (Nat.le_refl _) #[.int .i64 0, .int .i64 0, .float .f64 0, .string ⟨#[]⟩, .slice none 0 0]
    go_wp2_with (refine store_row_gen rfl 110 (Operand.tmp 2) _ rfl w.heap.size #[.int .i64 0, .int .i64 0, .float .f64 0, .string ⟨#[]⟩, .slice none 0 0] (by simp [go_sem]) (by simp [go_sem]) 110 _ hz6 (by kernel_rfl) rfl (by simp [Value.oneCell']) (fun w6 hw6 => ?_); rw [← hw6] at hz9 hb10; clear hw6)
    refine bodyPost_ret (v := .tuple #[.agg #[.int .i64 0, .int .i64 0, .float .f64 0, .string ⟨#[]⟩, .slice none 0 0], .int .i64 0, .int .i64 20]) ?hr rfl ?_
    case hr => exact results_ctt rfl _ _ w.heap.size 110 _ (0, 0) _ _ _ rfl rfl rfl hz9 Try.underlying110 rfl (by kernel_rfl)
    exact ⟨rfl, hb10⟩
  · rw [h1]
    rintro e w6 ⟨cs, rfl, hv, hb6⟩
    dsimp only
    obtain ⟨k', i', f', s', A', n', c9, hform⟩ := hv.reads.form
    have hvr := hv.reads
    subst hform
    have hz6 := (hz.below hb6 hz.lt).alloc (.cells #[.int .i64 k', .int .i64 i', .float .f64 f', .string s', .slice A' n' c9] 110)
    have hb7 := (hb4.trans (hb6.mono hb4.size)).alloc (Nat.le_trans hb4.size hb6.size) (.cells #[.int .i64 k', .int .i64 i', .float .f64 f', .string s', .slice A' n' c9] 110)
    have hbv := Blk.new w6 110 #[.int .i64 k', .int .i64 i', .float .f64 f', .string s', .slice A' n' c9]
    have hck := ref_check hvr (w6.alloc (.cells #[.int .i64 k', .int .i64 i', .float .f64 f', .string s', .slice A' n' c9] 110)) ((Below.refl _ w6).alloc (Nat.le_refl _) _) (by simp)
    have hne : ((checkV v : Int) != 0) = true := by rw [bne_iff_ne]; omega
    generalize checkV v = x at hck hne
    have v0 := hbv.cell 0
    have v1 := hbv.cell 1
    have v2 := hbv.cell 2
    have v3 := hbv.cell 3
    have v4 := hbv.cell 4
    have hw6 : w.heap.size < w6.heap.size := Nat.lt_of_lt_of_le hz.lt hb6.size
    clear hk
    go_wp2_with fail
    refine hck.mono ?_
    clear hck
    rintro e w8 ⟨rfl, hb8⟩
    dsimp only
    have hz8 := hz6.below hb8 hz6.lt
    have hb9 := hb7.trans (hb8.mono hb7.size)
    have hz9 := hz8.row #[.int .i64 0, .int .i64 0, .float .f64 0, .string ⟨#[]⟩, .slice none 0 0]
    have hb10 := below_row hb9 (g := w.heap.size) (Nat.le_refl _) #[.int .i64 0, .int .i64 0, .float .f64 0, .string ⟨#[]⟩, .slice none 0 0]
    clear v0 v1 v2 v3 v4 hz6 hb7 hbv hvr hb8 hb9
    go_wp2_with (refine store_row_gen rfl 110 (Operand.tmp 2) _ rfl w.heap.size #[.int .i64 0, .int .i64 0, .float .f64 0, .string ⟨#[]⟩, .slice none 0 0] (by simp [go_sem]) (by simp [go_sem]) 110 _ hz8 (by kernel_rfl) rfl (by simp [Value.oneCell']) (fun w6 hw6 => ?_); rw [← hw6] at hz9 hb10; clear hw6)
    refine bodyPost_ret (v := .tuple #[.agg #[.int .i64 0, .int .i64 0, .float .f64 0, .string ⟨#[]⟩, .slice none 0 0], .int .i64 0, .int .i64 20]) ?hr rfl ?_
    case hr => exact results_ctt rfl _ _ w.heap.size 110 _ (0, 0) _ _ _ rfl rfl rfl hz9 Try.underlying110 rfl (by kernel_rfl)
    exact ⟨rfl, hb10⟩
end Go.Proofs.Ytjljlgkghlphnaa
namespace Go.Proofs.Ytjljlgkghlphnaa
open Go.RowKit
set_option maxRecDepth 100000

/-- What ends a reading. -/
def shortC : List PanicEntry := [{ v := .iface 162 (.agg #[]), recovered := false }]

theorem cmust_ok (w : World) : Calls Try.prog 88 #[.bool true] w fun e w' => e = .returned (.tuple #[]) ∧ w = w' := by
  go_enter Try.func88, Try.ntmps88
  go_wp2
  go_end0
  exact ⟨rfl, rfl⟩
theorem cmust_no (w : World) : Calls Try.prog 88 #[.bool false] w fun e w' => e = .panicked shortC ∧ w = w' := by
  go_enter Try.func88, Try.ntmps88
  go_wp2
  exact ⟨rfl, rfl, rfl⟩

/-- The reader r: bytes at ad, how far, how deep still. -/
def CAt (w : World) (r : Nat) (A : Option Addr) (n c at_ : Nat) : Prop := Blk w r 147 #[.slice A n c, .int .i64 (at_ : Int)]

def CNumRes (w : World) (r : Nat) (ad : Addr) (n c at_ : Nat) (v : Nat) (e : Ending) (w' : World) : Prop :=
  e = .returned (.int .u64 (v : Int)) ∧ CAt w' r (some ad) n c at_ ∧ Upd (fun x => x = r) w w'

set_option maxHeartbeats 800000 in
theorem cnumber_ok {ad : Addr} {c B r k at_ : Nat} {b : List UInt8} {w : World} (h : CAt w r (some ad) b.length c at_) (hr : Reads w B 1 (some ad) b.length (bys b)) (hB : B ≤ r) (hc : b.length ≤ c) (hl : b.length ≤ 1000000000)
    (hk : k ≤ 8) (hk1 : 1 ≤ k) (hat : at_ + k ≤ b.length) (v : Nat) (hv : readU ((b.drop at_).take k) = v) :
    Calls Try.prog 87 #[.pointer (some ⟨r, 0, none⟩), .int .i64 (k : Int)] w (CNumRes w r ad b.length c (at_ + k) v) := by
  obtain ⟨d, hd⟩ : ∃ d, b.drop at_ = d := ⟨_, rfl⟩
  have hdl : d.length = b.length - at_ := by rw [← hd, List.length_drop]
  have hcut := hr.cut (k := at_) (cap := c) (by omega) hc
  rw [if_neg (by omega), Nat.mul_one, bys_drop, hd] at hcut
  have hcut : Reads w B 1 (some (ad.add at_)) d.length (bys d) := by rw [hdl]; exact hcut
  rw [hd] at hv
  obtain ⟨m, hm⟩ : ∃ m, b.length = m := ⟨_, rfl⟩
  have hRd : CAt w r (some ad) m c at_ := by rw [← hm]; exact h
  have hS : w.drew.cell? ⟨r, 0, none⟩ = some (.slice (some ad) m c) ∧ w.drew.cell? ⟨r, 1, none⟩ = some (.int .i64 (at_ : Int)) ∧ Below w.heap.size w w.drew := ⟨hRd.cell 0, hRd.cell 1, (Below.refl _ _).drew⟩
  have hac : at_ < c := by omega
  have ham : at_ ≤ m := by omega
  have hmc : m ≤ c := by omega
  have hrl : r < w.heap.size := hRd.lt
  rw [hm] at hdl ⊢
  have hdk : k ≤ d.length := by omega
  have hdc : d.length ≤ c - at_ := by omega
  have hdb : d.length ≤ 140737488351232 := by omega
  have hak : ((at_ : Int) + (k : Int)) ≤ 1000000000 := by omega
  have hv64 : v < 18446744073709551616 := by
    rw [← hv]
    refine Nat.lt_of_lt_of_le (readU_lt _) ?_
    rw [List.length_take, Nat.min_eq_left hdk]
    exact Nat.pow_le_pow_right (show 0 < 256 by decide) hk
  clear h hr hd hat hl hm
  replace hdl := Lib.hid hdl
  replace hv := Lib.hid hv
  replace hRd := Lib.hid hRd
  go_enter Try.func87, Try.ntmps87
  go_wp2_with fail
  refine wp_region_lex (fun W => W.cell? ⟨r, 0, none⟩ = some (.slice (some ad) m c) ∧ W.cell? ⟨r, 1, none⟩ = some (.int .i64 (at_ : Int)) ∧ Below w.heap.size w W) [3, 7] [10] [0, 1, 2, 3, 4, 5, 6, 7, 8, 9, 10, 11, 12, 13, 14, 15] (by kernel_rfl) rfl (by kernel_rfl) (by kernel_rfl) (fun _ _ d _ _ h => by cases d <;> exact h) ?_
  repeat (first | (refine lexG_take _ ?_ rfl rfl rfl rfl (fun _ => ?_) ?_; rotate_left; (focus (go_simp; with_reducible rfl)); try simp only [Act.put, List.setIfInBounds_toArray, List.set_cons_zero, List.set_cons_succ]) | (refine lexG_held _ ?_ rfl rfl rfl rfl (by assumption) (fun _ hSw => ?_) ?_; rotate_left; (focus ((try dsimp only at hSw); go_simp; with_reducible rfl)); try simp only [Act.put, List.setIfInBounds_toArray, List.set_cons_zero, List.set_cons_succ]) | (refine lexG_skip _ rfl rfl (by assumption) ?_; try simp only [Act.put, List.setIfInBounds_toArray, List.set_cons_zero, List.set_cons_succ]))
  refine lexG_now _ rfl rfl rfl (fun K hK => ?_)
  go_wp2_with fail
  rw [← hdl.out]
  refine (wire_read (((hcut.more (Nat.le_of_lt (Nat.lt_of_le_of_lt hB hrl))).drew)) hk hdk hdc hdb).mono ?_
  rintro e w1 ⟨rfl, hb1⟩
  rw [hv.out]
  dsimp only
  have hS1 : w1.cell? ⟨r, 0, none⟩ = some (.slice (some ad) m c) ∧ w1.cell? ⟨r, 1, none⟩ = some (.int .i64 (at_ : Int)) ∧ Below w.heap.size w w1 := ⟨(hb1.cell (by show r < _; simpa using hrl)).trans hS.1, (hb1.cell (by show r < _; simpa using hrl)).trans hS.2.1, below_then hb1 hS.2.2⟩
  refine hK _ _ _ (fun _ h => h) hS1 ?_
  clear hK K hS hb1
  try simp only [Act.put, List.setIfInBounds_toArray, List.set_cons_zero, List.set_cons_succ]
  repeat (first | (refine lexG_take _ ?_ rfl rfl rfl rfl (fun _ => ?_) ?_; rotate_left; (focus (go_simp; with_reducible rfl)); try simp only [Act.put, List.setIfInBounds_toArray, List.set_cons_zero, List.set_cons_succ]) | (refine lexG_held _ ?_ rfl rfl rfl rfl (by assumption) (fun _ hSw => ?_) ?_; rotate_left; (focus ((try dsimp only at hSw); go_simp; with_reducible rfl)); try simp only [Act.put, List.setIfInBounds_toArray, List.set_cons_zero, List.set_cons_succ]) | (refine lexG_skip _ rfl rfl (by assumption) ?_; try simp only [Act.put, List.setIfInBounds_toArray, List.set_cons_zero, List.set_cons_succ]))
  refine lexG_nil ?_
  have hRd1 : CAt w1 r (some ad) m c at_ := Blk.below hRd.out hS1.2.2 hrl
  have hf := Blk.frozen hRd1 1
  obtain ⟨e0, e1, e2⟩ := id hS1
  go_wp2_with fail
  refine (cmust_ok w1).mono ?_
  rintro e w2 ⟨rfl, rfl⟩
  dsimp only
  go_wp2_with fail
  go_ret
  have hset := Blk.set_ hRd1 1 (.int .i64 ((at_ : Int) + (k : Int)))
  refine ⟨rfl, ?_, ?_⟩
  · have e : ((at_ + k : Nat) : Int) = (at_ : Int) + (k : Int) := by omega
    unfold CAt
    rw [e]
    exact hset
  · exact ((Upd.refl (fun x => x = r) w).thenBelow hS1.2.2 (Nat.le_refl _)).setCell (p := ⟨r, 1, none⟩) (fun _ => rfl) _

set_option maxHeartbeats 800000 in
theorem cnumber_no {A : Option Addr} {n c r k at_ : Nat} {w : World} (h : CAt w r A n c at_) (hA : A = none → c = 0) (hc : n ≤ c) (hl : n ≤ 1000000000)
    (hk : k ≤ 8) (han : at_ ≤ n) (hat : n < at_ + k) :
    Calls Try.prog 87 #[.pointer (some ⟨r, 0, none⟩), .int .i64 (k : Int)] w (fun e w' => e = .panicked shortC ∧ Below w.heap.size w w') := by
  have hS : w.drew.cell? ⟨r, 0, none⟩ = some (.slice A n c) ∧ w.drew.cell? ⟨r, 1, none⟩ = some (.int .i64 (at_ : Int)) ∧ Below w.heap.size w w.drew := ⟨h.cell 0, h.cell 1, (Below.refl _ _).drew⟩
  have hac : at_ ≤ c := by omega
  have hm : n - at_ < k := by omega
  replace h := Lib.hid h
  cases A with
  | none =>
    have hc0 := hA rfl
    subst hc0
    have hn0 : n = 0 := by omega
    subst hn0
    have ha0 : at_ = 0 := by omega
    subst ha0
    go_enter Try.func87, Try.ntmps87
    go_wp2_with fail
    refine wp_region_lex (fun W => W.cell? ⟨r, 0, none⟩ = some (.slice none 0 0) ∧ W.cell? ⟨r, 1, none⟩ = some (.int .i64 ((0 : Nat) : Int)) ∧ Below w.heap.size w W) [3, 7] [10] [0, 1, 2, 3, 4, 5, 6, 7, 8, 9, 10, 11, 12, 13, 14, 15] (by kernel_rfl) rfl (by kernel_rfl) (by kernel_rfl) (fun _ _ d _ _ h => by cases d <;> exact h) ?_
    repeat (first | (refine lexG_take _ ?_ rfl rfl rfl rfl (fun _ => ?_) ?_; rotate_left; (focus (go_simp; with_reducible rfl)); try simp only [Act.put, List.setIfInBounds_toArray, List.set_cons_zero, List.set_cons_succ]) | (refine lexG_held _ ?_ rfl rfl rfl rfl (by assumption) (fun _ hSw => ?_) ?_; rotate_left; (focus ((try dsimp only at hSw); go_simp; with_reducible rfl)); try simp only [Act.put, List.setIfInBounds_toArray, List.set_cons_zero, List.set_cons_succ]) | (refine lexG_skip _ rfl rfl (by assumption) ?_; try simp only [Act.put, List.setIfInBounds_toArray, List.set_cons_zero, List.set_cons_succ]))
    refine lexG_now _ rfl rfl rfl (fun K hK => ?_)
    go_wp2_with fail
    all_goals
      refine (wire_read_no (m := 0) hk hm).mono ?_
      rintro e w1 ⟨rfl, rfl⟩
      dsimp only
      refine hK _ _ _ (fun _ h => h) hS ?_
      clear hK K
      try simp only [Act.put, List.setIfInBounds_toArray, List.set_cons_zero, List.set_cons_succ]
      repeat (first | (refine lexG_take _ ?_ rfl rfl rfl rfl (fun _ => ?_) ?_; rotate_left; (focus (go_simp; with_reducible rfl)); try simp only [Act.put, List.setIfInBounds_toArray, List.set_cons_zero, List.set_cons_succ]) | (refine lexG_held _ ?_ rfl rfl rfl rfl (by assumption) (fun _ hSw => ?_) ?_; rotate_left; (focus ((try dsimp only at hSw); go_simp; with_reducible rfl)); try simp only [Act.put, List.setIfInBounds_toArray, List.set_cons_zero, List.set_cons_succ]) | (refine lexG_skip _ rfl rfl (by assumption) ?_; try simp only [Act.put, List.setIfInBounds_toArray, List.set_cons_zero, List.set_cons_succ]))
      refine lexG_nil ?_
      go_wp2_with fail
      refine (cmust_no _).mono ?_
      rintro e w2 ⟨rfl, rfl⟩
      dsimp only
      go_wp2_with fail
      exact ⟨rfl, rfl, hS.2.2⟩
  | some ad =>
    go_enter Try.func87, Try.ntmps87
    go_wp2_with fail
    refine wp_region_lex (fun W => W.cell? ⟨r, 0, none⟩ = some (.slice (some ad) n c) ∧ W.cell? ⟨r, 1, none⟩ = some (.int .i64 (at_ : Int)) ∧ Below w.heap.size w W) [3, 7] [10] [0, 1, 2, 3, 4, 5, 6, 7, 8, 9, 10, 11, 12, 13, 14, 15] (by kernel_rfl) rfl (by kernel_rfl) (by kernel_rfl) (fun _ _ d _ _ h => by cases d <;> exact h) ?_
    repeat (first | (refine lexG_take _ ?_ rfl rfl rfl rfl (fun _ => ?_) ?_; rotate_left; (focus (go_simp; with_reducible rfl)); try simp only [Act.put, List.setIfInBounds_toArray, List.set_cons_zero, List.set_cons_succ]) | (refine lexG_held _ ?_ rfl rfl rfl rfl (by assumption) (fun _ hSw => ?_) ?_; rotate_left; (focus ((try dsimp only at hSw); go_simp; with_reducible rfl)); try simp only [Act.put, List.setIfInBounds_toArray, List.set_cons_zero, List.set_cons_succ]) | (refine lexG_skip _ rfl rfl (by assumption) ?_; try simp only [Act.put, List.setIfInBounds_toArray, List.set_cons_zero, List.set_cons_succ]))
    refine lexG_now _ rfl rfl rfl (fun K hK => ?_)
    go_wp2_with fail
    all_goals
      refine (wire_read_no hk hm).mono ?_
      rintro e w1 ⟨rfl, rfl⟩
      dsimp only
      refine hK _ _ _ (fun _ h => h) hS ?_
      clear hK K
      try simp only [Act.put, List.setIfInBounds_toArray, List.set_cons_zero, List.set_cons_succ]
      repeat (first | (refine lexG_take _ ?_ rfl rfl rfl rfl (fun _ => ?_) ?_; rotate_left; (focus (go_simp; with_reducible rfl)); try simp only [Act.put, List.setIfInBounds_toArray, List.set_cons_zero, List.set_cons_succ]) | (refine lexG_held _ ?_ rfl rfl rfl rfl (by assumption) (fun _ hSw => ?_) ?_; rotate_left; (focus ((try dsimp only at hSw); go_simp; with_reducible rfl)); try simp only [Act.put, List.setIfInBounds_toArray, List.set_cons_zero, List.set_cons_succ]) | (refine lexG_skip _ rfl rfl (by assumption) ?_; try simp only [Act.put, List.setIfInBounds_toArray, List.set_cons_zero, List.set_cons_succ]))
      refine lexG_nil ?_
      go_wp2_with fail
      refine (cmust_no _).mono ?_
      rintro e w2 ⟨rfl, rfl⟩
      dsimp only
      go_wp2_with fail
      exact ⟨rfl, rfl, hS.2.2⟩
end Go.Proofs.Ytjljlgkghlphnaa
namespace Go.Proofs.Ytjljlgkghlphnaa
section
variable {P : Program} {ops : Array Oper} {Q : Exit → Act → World → Prop} {md : Region.Mode} {H N : List Nat}

def preOk (md : Region.Mode) (ops : Array Oper) (N : List Nat) : List Nat → Array Bool → Bool
  | [], _ => true
  | i :: rest, listed => readyAt md ops listed i && (!N.contains i && Region.free md ops listed i) && preOk md ops N rest (listed.setIfInBounds i true)

def preSet : List Nat → Array Bool → Array Bool
  | [], listed => listed
  | i :: rest, listed => preSet rest (listed.setIfInBounds i true)

theorem ready_of_at {i : Nat} {listed : Array Bool} (hr : readyAt md ops listed i = true) : i ∈ Region.ready md ops listed := by
  unfold Region.ready
  simp only [readyAt, Bool.and_eq_true, decide_eq_true_eq] at hr
  rw [List.mem_filter, List.mem_range]
  exact ⟨hr.1.1, by rw [hr.2, hr.1.2]; rfl⟩

theorem pre_sound (hsel : ∀ (j : Nat) (o : Oper) cs b, ops[j]? = some o → o.op ≠ .select cs b) (hQ : ∀ c a d v w, Q (.panic c) (a.put d v) w → Q (.panic c) a w) (n : Nat) (R : Act → World → Prop) :
    ∀ (pre : List Nat) (S : World → Prop) (listed : Array Bool) (a : Act) (w : World), preOk md ops N pre listed = true → (∀ a' w', R a' w' → wpAnyG P md ops Q H N n S (preSet pre listed) a' w') → lexG P md ops (fun _ a' w' => R a' w') H N pre S a w → wpAnyG P md ops Q H N (pre.length + n) S listed a w
  | [], S, listed, a, w, _, hR, h => by
    rw [List.length_nil, Nat.zero_add]
    exact hR a w h
  | i :: rest, S, listed, a, w, hok, hR, h => by
    simp only [preOk, Bool.and_eq_true, Bool.not_eq_true'] at hok
    obtain ⟨⟨hr, hN, hk⟩, hrest⟩ := hok
    unfold lexG at h
    rw [hN] at h
    simp only [Bool.false_eq_true, if_false] at h
    obtain ⟨o, v, ho, hy, hS, hl⟩ := h
    have e : (i :: rest).length + n = (rest.length + n) + 1 := by rw [List.length_cons]; omega
    rw [e]
    exact wpAnyG_first ho hN hsel (fun c a w => hQ c a o.dst v w) _ S listed a w (Region.free_spec ho hk) (ready_of_at hr) hy hS (pre_sound hsel hQ n R rest S _ _ w hrest hR hl)

theorem pair_sound (hsel : ∀ (j : Nat) (o : Oper) cs b, ops[j]? = some o → o.op ≠ .select cs b) (hQ : ∀ c a d v w, Q (.panic c) (a.put d v) w → Q (.panic c) a w) {i j : Nat} {p1 p2 : List Nat} {S : World → Prop} {listed : Array Bool} {a : Act} {w : World}
    (hr : Region.ready md ops listed = [i, j]) (hi : N.contains i = true) (hj : N.contains j = true) (hl : p2.length = p1.length) (ok1 : lexOk md ops N p1 (listed.setIfInBounds i true) = true) (ok2 : lexOk md ops N p2 (listed.setIfInBounds j true) = true)
    (h1 : lexG P md ops Q H N (i :: p1) S a w) (h2 : lexG P md ops Q H N (j :: p2) S a w) : wpAnyG P md ops Q H N (p1.length + 1) S listed a w := by
  unfold lexG at h1 h2
  rw [hi] at h1
  rw [hj] at h2
  simp only [if_true] at h1 h2
  refine ⟨fun h0 => (by rw [h0] at hr; cases hr), fun k hk => ?_⟩
  rw [hr] at hk
  simp only [List.mem_cons, List.not_mem_nil, or_false] at hk
  rcases hk with rfl | rfl
  · exact wpOp_mono (fun a' w' ⟨S', hsub, hask, hl⟩ => ⟨S', hsub, by unfold askS; rw [hi]; exact hask, lex_sound hsel hQ p1 S' _ a' w' ok1 hl⟩) h1
  · refine wpOp_mono (fun a' w' ⟨S', hsub, hask, hl2⟩ => ⟨S', hsub, by unfold askS; rw [hj]; exact hask, ?_⟩) h2
    have := lex_sound hsel hQ p2 S' _ a' w' ok2 hl2
    rw [hl] at this
    exact this

theorem wp_region_pair {id : Nat} {a : Act} {w : World} {l : List Oper} (S : World → Prop) (H N pre : List Nat) (i j : Nat) (p1 p2 : List Nat) (hm : P.follows .mixedOrders = true) (hlen : pre.length + (p1.length + 1) = l.toArray.size) (hl : p2.length = p1.length)
    (hs : Region.noSelect l.toArray = true) (hpre : preOk .any l.toArray N pre (Array.replicate l.toArray.size false) = true) (hr : (Region.ready .any l.toArray (preSet pre (Array.replicate l.toArray.size false)) == [i, j]) = true) (hi : N.contains i = true) (hj : N.contains j = true)
    (ok1 : lexOk .any l.toArray N p1 ((preSet pre (Array.replicate l.toArray.size false)).setIfInBounds i true) = true) (ok2 : lexOk .any l.toArray N p2 ((preSet pre (Array.replicate l.toArray.size false)).setIfInBounds j true) = true) (hQ : ∀ c a d v w, Q (.panic c) (a.put d v) w → Q (.panic c) a w)
    (h : lexG P .any l.toArray (fun _ a' w' => lexG P .any l.toArray Q H N (i :: p1) S a' w' ∧ lexG P .any l.toArray Q H N (j :: p2) S a' w') H N pre S a w.drew) : (Code.region id l.toArray true).wp P Q a w :=
  wp_region_any hm (wpAny_of_G _ S _ _ _ (hlen ▸ pre_sound (Region.noSelect_spec hs) hQ (p1.length + 1) (fun a' w' => lexG P .any l.toArray Q H N (i :: p1) S a' w' ∧ lexG P .any l.toArray Q H N (j :: p2) S a' w') pre S _ a w.drew hpre
    (fun _ _ hR => pair_sound (Region.noSelect_spec hs) hQ (by simpa using hr) hi hj hl ok1 ok2 hR.1 hR.2) h))
end
end Go.Proofs.Ytjljlgkghlphnaa
namespace Go.Proofs.Ytjljlgkghlphnaa
open Go.RowKit
set_option maxRecDepth 100000

set_option maxHeartbeats 800000 in
theorem name_ok {ad : Addr} {c B r at_ : Nat} {b : List UInt8} {w : World} (h : CAt w r (some ad) b.length c at_) (hr : Reads w B 1 (some ad) b.length (bys b)) (hB : B ≤ r) (hc : b.length ≤ c) (hl : b.length ≤ 1000000000) (hat : at_ ≤ b.length)
    (tx : List UInt8) (tn : Nat) (ht : readT (b.drop at_) 32 = (tx, tn, 0)) :
    Calls Try.prog 86 #[.pointer (some ⟨r, 0, none⟩)] w (fun e w' => e = .returned (.string (bstr tx)) ∧ CAt w' r (some ad) b.length c (at_ + tn) ∧ Upd (fun x => x = r) w w') := by
  have htn : 2 ≤ (b.drop at_).length ∧ tn ≤ 1000 := by
    refine ⟨?_, ?_⟩
    · unfold readT at ht
      split at ht
      · omega
      · cases ht
    · have h1 : (readT (b.drop at_) 32).2.1 = tn := by rw [ht]
      rw [← h1]
      unfold readT
      split
      · rename_i h2
        show 2 + _ ≤ _
        omega
      · show 0 ≤ _
        omega
  obtain ⟨d, hd⟩ : ∃ d, b.drop at_ = d := ⟨_, rfl⟩
  have hdl : d.length = b.length - at_ := by rw [← hd, List.length_drop]
  rw [hd] at htn ht
  have hcut := hr.cut (k := at_) (cap := c) (by omega) hc
  rw [if_neg (by omega), Nat.mul_one, bys_drop, hd] at hcut
  have hcut : Reads w B 1 (some (ad.add at_)) d.length (bys d) := by rw [hdl]; exact hcut
  obtain ⟨m, hm⟩ : ∃ m, b.length = m := ⟨_, rfl⟩
  have hRd : CAt w r (some ad) m c at_ := by rw [← hm]; exact h
  have hS : w.drew.cell? ⟨r, 0, none⟩ = some (.slice (some ad) m c) ∧ w.drew.cell? ⟨r, 1, none⟩ = some (.int .i64 (at_ : Int)) ∧ Below w.heap.size w w.drew := ⟨hRd.cell 0, hRd.cell 1, (Below.refl _ _).drew⟩
  have hac : at_ < c := by omega
  have ham : at_ ≤ m := by omega
  have hmc : m ≤ c := by omega
  have hrl : r < w.heap.size := hRd.lt
  rw [hm] at hdl ⊢
  have hdc : d.length ≤ c - at_ := by omega
  have hdb : d.length ≤ 1000000000 := by omega
  have hak : ((at_ : Int) + (tn : Int)) ≤ 1000001000 := by omega
  have htx := fun (w1 : World) (h1 : Reads w1 w1.heap.size 1 (some (ad.add at_)) d.length (bys d)) => read_text (m := 32) h1 hdc hdb ht
  obtain ⟨st, hst⟩ : ∃ st, bstr tx = st := ⟨_, rfl⟩
  unfold TextRes at htx
  dsimp only at htx
  rw [hst] at htx ⊢
  clear h hr hd hat hl hm ht htn
  replace htx := Lib.hid htx
  replace hdl := Lib.hid hdl
  replace hRd := Lib.hid hRd
  go_enter Try.func86, Try.ntmps86
  go_wp2_with fail
  refine wp_region_lex (fun W => W.cell? ⟨r, 0, none⟩ = some (.slice (some ad) m c) ∧ W.cell? ⟨r, 1, none⟩ = some (.int .i64 (at_ : Int)) ∧ Below w.heap.size w W) [3, 7] [9] [0, 1, 2, 3, 4, 5, 6, 7, 8, 9, 10, 11, 12, 13, 14, 15, 16] (by kernel_rfl) rfl (by kernel_rfl) (by kernel_rfl) (fun _ _ d _ _ h => by cases d <;> exact h) ?_
  repeat (first | (refine lexG_take _ ?_ rfl rfl rfl rfl (fun _ => ?_) ?_; rotate_left; (focus (go_simp; with_reducible rfl)); try simp only [Act.put, List.setIfInBounds_toArray, List.set_cons_zero, List.set_cons_succ]) | (refine lexG_held _ ?_ rfl rfl rfl rfl (by assumption) (fun _ hSw => ?_) ?_; rotate_left; (focus ((try dsimp only at hSw); go_simp; with_reducible rfl)); try simp only [Act.put, List.setIfInBounds_toArray, List.set_cons_zero, List.set_cons_succ]) | (refine lexG_skip _ rfl rfl (by assumption) ?_; try simp only [Act.put, List.setIfInBounds_toArray, List.set_cons_zero, List.set_cons_succ]))
  refine lexG_now _ rfl rfl rfl (fun K hK => ?_)
  go_wp2_with fail
  rw [← hdl.out]
  refine (htx.out _ ((hcut.more (Nat.le_of_lt (Nat.lt_of_le_of_lt hB hrl))).drew)).mono ?_
  rintro e w1 ⟨rfl, hb1⟩
  dsimp only
  have hS1 : w1.cell? ⟨r, 0, none⟩ = some (.slice (some ad) m c) ∧ w1.cell? ⟨r, 1, none⟩ = some (.int .i64 (at_ : Int)) ∧ Below w.heap.size w w1 := ⟨(hb1.cell (by show r < _; simpa using hrl)).trans hS.1, (hb1.cell (by show r < _; simpa using hrl)).trans hS.2.1, below_then hb1 hS.2.2⟩
  refine hK _ _ _ (fun _ h => h) hS1 ?_
  clear hK K hS hb1
  try simp only [Act.put, List.setIfInBounds_toArray, List.set_cons_zero, List.set_cons_succ]
  repeat (first | (refine lexG_take _ ?_ rfl rfl rfl rfl (fun _ => ?_) ?_; rotate_left; (focus (go_simp; with_reducible rfl)); try simp only [Act.put, List.setIfInBounds_toArray, List.set_cons_zero, List.set_cons_succ]) | (refine lexG_held _ ?_ rfl rfl rfl rfl (by assumption) (fun _ hSw => ?_) ?_; rotate_left; (focus ((try dsimp only at hSw); go_simp; with_reducible rfl)); try simp only [Act.put, List.setIfInBounds_toArray, List.set_cons_zero, List.set_cons_succ]) | (refine lexG_skip _ rfl rfl (by assumption) ?_; try simp only [Act.put, List.setIfInBounds_toArray, List.set_cons_zero, List.set_cons_succ]))
  refine lexG_nil ?_
  have hRd1 : CAt w1 r (some ad) m c at_ := Blk.below hRd.out hS1.2.2 hrl
  have hf := Blk.frozen hRd1 1
  obtain ⟨e0, e1, e2⟩ := id hS1
  go_wp2_with fail
  refine (cmust_ok w1).mono ?_
  rintro e w2 ⟨rfl, rfl⟩
  dsimp only
  go_wp2_with fail
  go_ret
  have hset := Blk.set_ hRd1 1 (.int .i64 ((at_ : Int) + (tn : Int)))
  refine ⟨rfl, ?_, ?_⟩
  · have e : ((at_ + tn : Nat) : Int) = (at_ : Int) + (tn : Int) := by omega
    unfold CAt
    rw [e]
    exact hset
  · exact ((Upd.refl (fun x => x = r) w).thenBelow hS1.2.2 (Nat.le_refl _)).setCell (p := ⟨r, 1, none⟩) (fun _ => rfl) _

set_option maxHeartbeats 800000 in
theorem name_no {A : Option Addr} {c B r at_ : Nat} {b : List UInt8} {w : World} (h : CAt w r A b.length c at_) (hr : Reads w B 1 A b.length (bys b)) (hA : A = none → c = 0) (hB : B ≤ r) (hc : b.length ≤ c) (hl : b.length ≤ 1000000000) (hat : at_ ≤ b.length)
    (ht : (readT (b.drop at_) 32).2.2 ≠ 0) :
    Calls Try.prog 86 #[.pointer (some ⟨r, 0, none⟩)] w (fun e w' => e = .panicked shortC ∧ Below w.heap.size w w') := by
  have ht' : readT (b.drop at_) 32 = ([], 0, 20) := by
    unfold readT at ht ⊢
    split
    · rename_i h1; rw [if_pos h1] at ht; exact absurd rfl ht
    · rfl
  obtain ⟨d, hd⟩ : ∃ d, b.drop at_ = d := ⟨_, rfl⟩
  have hdl : d.length = b.length - at_ := by rw [← hd, List.length_drop]
  rw [hd] at ht'
  have hrl : r < w.heap.size := Blk.lt h
  have hac : at_ ≤ c := by omega
  have hdc : d.length ≤ c - at_ := by omega
  have hdb : d.length ≤ 1000000000 := by omega
  have htx := fun (w1 : World) (A1 : Option Addr) (h1 : Reads w1 w1.heap.size 1 A1 d.length (bys d)) => read_text (m := 32) h1 hdc hdb ht'
  have htx0 := fun (w1 : World) (A1 : Option Addr) (h0 : d.length ≤ 0) (h1 : Reads w1 w1.heap.size 1 A1 d.length (bys d)) => read_text (m := 32) (c := 0) h1 h0 hdb ht'
  unfold TextRes at htx htx0
  dsimp only at htx htx0
  have hs0 : bstr [] = ⟨#[]⟩ := rfl
  rw [hs0] at htx htx0
  replace htx0 := Lib.hid htx0
  have hrd := fun (w1 : World) (hb : Below w.heap.size w w1) => (hr.below (hb.mono (Nat.le_of_lt (Nat.lt_of_le_of_lt hB hrl)))).more (Nat.le_trans (Nat.le_of_lt (Nat.lt_of_le_of_lt hB hrl)) hb.size)
  have hnil : ∀ (w1 : World) (A1 : Option Addr), d.length = 0 → Reads w1 w1.heap.size 1 A1 d.length (bys d) := fun w1 A1 h0 => by
    have : d = [] := List.eq_nil_of_length_eq_zero h0
    subst this
    exact ⟨by simp [bys], fun h => absurd h (by simp)⟩
  have hS : w.drew.cell? ⟨r, 0, none⟩ = some (.slice A b.length c) ∧ w.drew.cell? ⟨r, 1, none⟩ = some (.int .i64 (at_ : Int)) ∧ Below w.heap.size w w.drew := ⟨h.cell 0, h.cell 1, (Below.refl _ _).drew⟩
  have hcutx : ∀ ad, A = some ad → at_ < c → ∀ (w1 : World), Below w.heap.size w w1 → Reads w1 w1.heap.size 1 (some (ad.add at_)) d.length (bys d) := fun ad hA1 hlt w1 hb1 => by
    have h0 := hrd w1 hb1
    rw [hA1] at h0
    have hcut := h0.cut (k := at_) (cap := c) (by omega) hc
    rw [if_neg (by omega), Nat.mul_one, bys_drop, hd] at hcut
    rw [hdl]
    exact hcut
  obtain ⟨m, hm⟩ : ∃ m, b.length = m := ⟨_, rfl⟩
  rw [hm] at hS hdl hat hc
  clear h hr hl hm ht ht' hd hrd hs0
  replace htx := Lib.hid htx
  replace hnil := Lib.hid hnil
  replace hcutx := Lib.hid hcutx
  replace hdl := Lib.hid hdl
  cases A with
  | none =>
    have hc0 := hA rfl
    subst hc0
    have hn0 : m = 0 := by omega
    subst hn0
    have ha0 : at_ = 0 := by omega
    subst ha0
    have hd0 : d.length = 0 := by have := hdl.out; omega
    go_enter Try.func86, Try.ntmps86
    go_wp2_with fail
    refine wp_region_lex (fun W => W.cell? ⟨r, 0, none⟩ = some (.slice none 0 0) ∧ W.cell? ⟨r, 1, none⟩ = some (.int .i64 ((0 : Nat) : Int)) ∧ Below w.heap.size w W) [3, 7] [9] [0, 1, 2, 3, 4, 5, 6, 7, 8, 9, 10, 11, 12, 13, 14, 15, 16] (by kernel_rfl) rfl (by kernel_rfl) (by kernel_rfl) (fun _ _ d _ _ h => by cases d <;> exact h) ?_
    repeat (first | (refine lexG_take _ ?_ rfl rfl rfl rfl (fun _ => ?_) ?_; rotate_left; (focus (go_simp; with_reducible rfl)); try simp only [Act.put, List.setIfInBounds_toArray, List.set_cons_zero, List.set_cons_succ]) | (refine lexG_held _ ?_ rfl rfl rfl rfl (by assumption) (fun _ hSw => ?_) ?_; rotate_left; (focus ((try dsimp only at hSw); go_simp; with_reducible rfl)); try simp only [Act.put, List.setIfInBounds_toArray, List.set_cons_zero, List.set_cons_succ]) | (refine lexG_skip _ rfl rfl (by assumption) ?_; try simp only [Act.put, List.setIfInBounds_toArray, List.set_cons_zero, List.set_cons_succ]))
    refine lexG_now _ rfl rfl rfl (fun K hK => ?_)
    have htt := htx.out w.drew none (hnil.out _ _ hd0)
    rw [hd0] at htt
    go_wp2_with fail
    all_goals
      refine htt.mono ?_
      rintro e w1 ⟨rfl, hb1⟩
      dsimp only
      have hS1 : w1.cell? ⟨r, 0, none⟩ = some (.slice none 0 0) ∧ w1.cell? ⟨r, 1, none⟩ = some (.int .i64 ((0 : Nat) : Int)) ∧ Below w.heap.size w w1 := ⟨(hb1.cell (by show r < _; simpa using hrl)).trans hS.1, (hb1.cell (by show r < _; simpa using hrl)).trans hS.2.1, below_then hb1 hS.2.2⟩
      refine hK _ _ _ (fun _ h => h) hS1 ?_
      clear hK K hS hb1
      try simp only [Act.put, List.setIfInBounds_toArray, List.set_cons_zero, List.set_cons_succ]
      repeat (first | (refine lexG_take _ ?_ rfl rfl rfl rfl (fun _ => ?_) ?_; rotate_left; (focus (go_simp; with_reducible rfl)); try simp only [Act.put, List.setIfInBounds_toArray, List.set_cons_zero, List.set_cons_succ]) | (refine lexG_held _ ?_ rfl rfl rfl rfl (by assumption) (fun _ hSw => ?_) ?_; rotate_left; (focus ((try dsimp only at hSw); go_simp; with_reducible rfl)); try simp only [Act.put, List.setIfInBounds_toArray, List.set_cons_zero, List.set_cons_succ]) | (refine lexG_skip _ rfl rfl (by assumption) ?_; try simp only [Act.put, List.setIfInBounds_toArray, List.set_cons_zero, List.set_cons_succ]))
      refine lexG_nil ?_
      go_wp2_with fail
      refine (cmust_no _).mono ?_
      rintro e w2 ⟨rfl, rfl⟩
      dsimp only
      go_wp2_with fail
      exact ⟨rfl, rfl, hS1.2.2⟩
  | some ad =>
    go_enter Try.func86, Try.ntmps86
    go_wp2_with fail
    refine wp_region_lex (fun W => W.cell? ⟨r, 0, none⟩ = some (.slice (some ad) m c) ∧ W.cell? ⟨r, 1, none⟩ = some (.int .i64 (at_ : Int)) ∧ Below w.heap.size w W) [3, 7] [9] [0, 1, 2, 3, 4, 5, 6, 7, 8, 9, 10, 11, 12, 13, 14, 15, 16] (by kernel_rfl) rfl (by kernel_rfl) (by kernel_rfl) (fun _ _ d _ _ h => by cases d <;> exact h) ?_
    repeat (first | (refine lexG_take _ ?_ rfl rfl rfl rfl (fun _ => ?_) ?_; rotate_left; (focus (go_simp; with_reducible rfl)); try simp only [Act.put, List.setIfInBounds_toArray, List.set_cons_zero, List.set_cons_succ]) | (refine lexG_held _ ?_ rfl rfl rfl rfl (by assumption) (fun _ hSw => ?_) ?_; rotate_left; (focus ((try dsimp only at hSw); go_simp; with_reducible rfl)); try simp only [Act.put, List.setIfInBounds_toArray, List.set_cons_zero, List.set_cons_succ]) | (refine lexG_skip _ rfl rfl (by assumption) ?_; try simp only [Act.put, List.setIfInBounds_toArray, List.set_cons_zero, List.set_cons_succ]))
    refine lexG_now _ rfl rfl rfl (fun K hK => ?_)
    have hrd0 : c = at_ → Calls Try.prog 101 #[.slice (some ad) d.length 0, .int .i64 32] w.drew (fun e w' => e = .returned (.tuple #[.string ⟨#[]⟩, .int .i64 ((0 : Nat) : Int), .int .i64 ((20 : Nat) : Int)]) ∧ Below w.drew.heap.size w.drew w') := fun h2 => htx0.out w.drew _ (by have := hdl.out; omega) (hnil.out _ _ (by have := hdl.out; omega))
    have hrdx : ¬ c = at_ → Calls Try.prog 101 #[.slice (some (ad.add at_)) d.length (c - at_), .int .i64 32] w.drew (fun e w' => e = .returned (.tuple #[.string ⟨#[]⟩, .int .i64 ((0 : Nat) : Int), .int .i64 ((20 : Nat) : Int)]) ∧ Below w.drew.heap.size w.drew w') := fun h2 => htx.out w.drew _ (hcutx.out ad rfl (by omega) _ hS.2.2)
    replace hrd0 := Lib.hid hrd0
    replace hrdx := Lib.hid hrdx
    go_wp2_with fail
    · skip
      rw [← hdl.out]
      refine (hrd0.out (by assumption)).mono ?_
      rintro e w1 ⟨rfl, hb1⟩
      dsimp only
      have hS1 : w1.cell? ⟨r, 0, none⟩ = some (.slice (some ad) m c) ∧ w1.cell? ⟨r, 1, none⟩ = some (.int .i64 (at_ : Int)) ∧ Below w.heap.size w w1 := ⟨(hb1.cell (by show r < _; simpa using hrl)).trans hS.1, (hb1.cell (by show r < _; simpa using hrl)).trans hS.2.1, below_then hb1 hS.2.2⟩
      refine hK _ _ _ (fun _ h => h) hS1 ?_
      clear hK K hS hb1
      try simp only [Act.put, List.setIfInBounds_toArray, List.set_cons_zero, List.set_cons_succ]
      repeat (first | (refine lexG_take _ ?_ rfl rfl rfl rfl (fun _ => ?_) ?_; rotate_left; (focus (go_simp; with_reducible rfl)); try simp only [Act.put, List.setIfInBounds_toArray, List.set_cons_zero, List.set_cons_succ]) | (refine lexG_held _ ?_ rfl rfl rfl rfl (by assumption) (fun _ hSw => ?_) ?_; rotate_left; (focus ((try dsimp only at hSw); go_simp; with_reducible rfl)); try simp only [Act.put, List.setIfInBounds_toArray, List.set_cons_zero, List.set_cons_succ]) | (refine lexG_skip _ rfl rfl (by assumption) ?_; try simp only [Act.put, List.setIfInBounds_toArray, List.set_cons_zero, List.set_cons_succ]))
      refine lexG_nil ?_
      go_wp2_with fail
      refine (cmust_no _).mono ?_
      rintro e w2 ⟨rfl, rfl⟩
      dsimp only
      go_wp2_with fail
      exact ⟨rfl, rfl, hS1.2.2⟩
    · skip
      rw [← hdl.out]
      refine (hrdx.out (by assumption)).mono ?_
      rintro e w1 ⟨rfl, hb1⟩
      dsimp only
      have hS1 : w1.cell? ⟨r, 0, none⟩ = some (.slice (some ad) m c) ∧ w1.cell? ⟨r, 1, none⟩ = some (.int .i64 (at_ : Int)) ∧ Below w.heap.size w w1 := ⟨(hb1.cell (by show r < _; simpa using hrl)).trans hS.1, (hb1.cell (by show r < _; simpa using hrl)).trans hS.2.1, below_then hb1 hS.2.2⟩
      refine hK _ _ _ (fun _ h => h) hS1 ?_
      clear hK K hS hb1
      try simp only [Act.put, List.setIfInBounds_toArray, List.set_cons_zero, List.set_cons_succ]
      repeat (first | (refine lexG_take _ ?_ rfl rfl rfl rfl (fun _ => ?_) ?_; rotate_left; (focus (go_simp; with_reducible rfl)); try simp only [Act.put, List.setIfInBounds_toArray, List.set_cons_zero, List.set_cons_succ]) | (refine lexG_held _ ?_ rfl rfl rfl rfl (by assumption) (fun _ hSw => ?_) ?_; rotate_left; (focus ((try dsimp only at hSw); go_simp; with_reducible rfl)); try simp only [Act.put, List.setIfInBounds_toArray, List.set_cons_zero, List.set_cons_succ]) | (refine lexG_skip _ rfl rfl (by assumption) ?_; try simp only [Act.put, List.setIfInBounds_toArray, List.set_cons_zero, List.set_cons_succ]))
      refine lexG_nil ?_
      go_wp2_with fail
      refine (cmust_no _).mono ?_
      rintro e w2 ⟨rfl, rfl⟩
      dsimp only
      go_wp2_with fail
      exact ⟨rfl, rfl, hS1.2.2⟩
end Go.Proofs.Ytjljlgkghlphnaa
namespace Go.Proofs.Ytjljlgkghlphnaa
open Go.RowKit
set_option maxRecDepth 100000

set_option maxHeartbeats 3200000 in
theorem cvalue_ok {ad : Addr} {c B r at_ : Nat} {b : List UInt8} {w : World} (h : CAt w r (some ad) b.length c at_) (hr : Reads w B 1 (some ad) b.length (bys b)) (hB : B ≤ r) (hc : b.length ≤ c) (hl : b.length ≤ 1000000000) (hat : at_ ≤ b.length)
    (v : Val) (m : Nat) (ho : rdV (b.drop at_) = some (v, m)) :
    Calls Try.prog 89 #[.pointer (some ⟨r, 0, none⟩)] w (fun e w' => ∃ cs, e = .returned (.agg cs) ∧ VOwn w' (fun g => w.heap.size ≤ g) v cs ∧ CAt w' r (some ad) b.length c (at_ + m) ∧ Upd (fun x => x = r) w w') := by
  have hsf := fun a k x m w => run_store_float (P := Try.prog) a k x m w
  have hd1 : 1 ≤ (b.drop at_).length := by
    cases hx : b.drop at_ with
    | nil => rw [hx] at ho; cases ho
    | cons x t => simp
  have hm4 : m ≤ 4096 := by
    unfold rdV at ho
    cases hp : pv 8 (b.drop at_) with
    | none => rw [hp] at ho; cases ho
    | some y =>
      rw [hp] at ho
      dsimp only at ho
      split at ho
      · cases ho; assumption
      · cases ho
  obtain ⟨d, hd⟩ : ∃ d, b.drop at_ = d := ⟨_, rfl⟩
  have hdl : d.length = b.length - at_ := by rw [← hd, List.length_drop]
  rw [hd] at hd1 ho
  have hcut := hr.cut (k := at_) (cap := c) (by omega) hc
  rw [if_neg (by omega), Nat.mul_one, bys_drop, hd] at hcut
  have hcut : Reads w B 1 (some (ad.add at_)) d.length (bys d) := by rw [hdl]; exact hcut
  obtain ⟨mm, hmm⟩ : ∃ mm, b.length = mm := ⟨_, rfl⟩
  have hRd : CAt w r (some ad) mm c at_ := by rw [← hmm]; exact h
  have hac : at_ < c := by omega
  have ham : at_ ≤ mm := by omega
  have hmc : mm ≤ c := by omega
  have hrl : r < w.heap.size := hRd.lt
  rw [hmm] at hdl ⊢
  have hdc : d.length ≤ c - at_ := by omega
  have hdb : d.length ≤ 1000000000 := by omega
  have hak : ((at_ : Int) + (m : Int)) ≤ 1000010000 := by omega
  have hz := Blk.new w 110 #[.int .i64 0, .int .i64 0, .float .f64 0, .string ⟨#[]⟩, .slice none 0 0]
  have hw2 : (w.alloc (.cells #[.int .i64 0, .int .i64 0, .float .f64 0, .string ⟨#[]⟩, .slice none 0 0] 110)).heap.size = w.heap.size + 1 := by simp
  have hR2 : CAt (w.alloc (.cells #[.int .i64 0, .int .i64 0, .float .f64 0, .string ⟨#[]⟩, .slice none 0 0] 110)) r (some ad) mm c at_ := Blk.alloc hRd (.cells #[.int .i64 0, .int .i64 0, .float .f64 0, .string ⟨#[]⟩, .slice none 0 0] 110)
  have hb2 := (Below.refl w.heap.size w).alloc (Nat.le_refl _) (.cells #[.int .i64 0, .int .i64 0, .float .f64 0, .string ⟨#[]⟩, .slice none 0 0] 110)
  have hrv : ∀ w1, Below w.heap.size w w1 → Calls Try.prog 102 #[.slice (some (ad.add at_)) d.length (c - at_)] w1 (RdRes w1 (some (v, m))) := fun w1 hb1 => by
    rw [← ho]
    exact wire_read_v ((hcut.below (hb1.mono (Nat.le_of_lt (Nat.lt_of_le_of_lt hB hrl)))).more (Nat.le_trans (Nat.le_of_lt (Nat.lt_of_le_of_lt hB hrl)) hb1.size)) (fun e => by cases e) hdc hdb
  unfold RdRes at hrv
  dsimp only at hrv
  clear h hr hd hat hl hmm ho hcut
  replace hrv := Lib.hid hrv
  replace hdl := Lib.hid hdl
  replace hRd := Lib.hid hRd
  obtain ⟨z, hzz⟩ : ∃ z, w.heap.size = z := ⟨_, rfl⟩
  go_enter Try.func89, Try.ntmps89
  go_wp2_with fail
  generalize w.alloc (.cells #[.int .i64 0, .int .i64 0, .float .f64 0, .string ⟨#[]⟩, .slice none 0 0] 110) = w2 at *
  rw [hzz] at hz hw2
  have hzzh := Lib.hid hzz
  go_upto_region 1 with (fail)
  go_cut [3, 4, 5] from 6 to 19 (fun p3 v4 v5 wx => ∃ (g3 : Nat) (k i : Int) (f : Nat) (s : ByteArray) (A' : Option Addr) (n' c' : Nat), p3 = .pointer (some ⟨g3, 0, none⟩) ∧ v4 = .int .i64 (m : Int) ∧ v5 = .int .i64 0 ∧ z < g3 ∧ Blk wx g3 110 #[.int .i64 k, .int .i64 i, .float .f64 f, .string s, .slice A' n' c'] ∧ VOwn wx (fun g => z < g) v #[.int .i64 k, .int .i64 i, .float .f64 f, .string s, .slice A' n' c'] ∧ Blk wx z 110 #[.int .i64 0, .int .i64 0, .float .f64 0, .string ⟨#[]⟩, .slice none 0 0] ∧ CAt wx r (some ad) mm c at_ ∧ Below w2.heap.size w2 wx)
  case first =>
    have hS : w2.drew.cell? ⟨r, 0, none⟩ = some (.slice (some ad) mm c) ∧ w2.drew.cell? ⟨r, 1, none⟩ = some (.int .i64 (at_ : Int)) ∧ Below w2.heap.size w2 w2.drew := ⟨Blk.cell hR2 0, Blk.cell hR2 1, (Below.refl _ _).drew⟩
    refine wp_region_pair (fun W => W.cell? ⟨r, 0, none⟩ = some (.slice (some ad) mm c) ∧ W.cell? ⟨r, 1, none⟩ = some (.int .i64 (at_ : Int)) ∧ Below w2.heap.size w2 W) [3, 7] [9, 14, 15] [0, 1, 2, 3, 4, 5, 6, 7, 8] 9 14 [10, 11, 12, 13, 14, 15, 16, 17] [9, 10, 11, 12, 13, 15, 16, 17] (by kernel_rfl) rfl rfl (by kernel_rfl) (by kernel_rfl) (by kernel_rfl) rfl rfl (by kernel_rfl) (by kernel_rfl) (fun _ _ d _ _ h => by cases d <;> exact h) ?_
    repeat (first | (refine lexG_take _ ?_ rfl rfl rfl rfl (fun _ => ?_) ?_; rotate_left; (focus (go_simp; with_reducible rfl)); try simp only [Act.put, List.setIfInBounds_toArray, List.set_cons_zero, List.set_cons_succ]) | (refine lexG_held _ ?_ rfl rfl rfl rfl (by assumption) (fun _ hSw => ?_) ?_; rotate_left; (focus ((try dsimp only at hSw); go_simp; with_reducible rfl)); try simp only [Act.put, List.setIfInBounds_toArray, List.set_cons_zero, List.set_cons_succ]) | (refine lexG_skip _ rfl rfl (by assumption) ?_; try simp only [Act.put, List.setIfInBounds_toArray, List.set_cons_zero, List.set_cons_succ]))
    refine lexG_nil ?_
    refine ⟨?_, ?_⟩
    · refine lexG_now _ rfl rfl rfl (fun K hK => ?_)
      go_wp2_with fail
      rw [← hdl.out]
      refine (hrv.out _ (hb2.trans (hS.2.2.mono (by omega)))).mono ?_
      rintro e w5 ⟨cs, rfl, hv, hb5⟩
      obtain ⟨k, i, f, s, A', n', c', hform⟩ := hv.reads.form
      subst hform
      dsimp only
      have hb5' : Below w2.heap.size w2 w5 := below_then hb5 hS.2.2
      have hz5 := hz.below hb5' hz.lt
      have hR5 : CAt w5 r (some ad) mm c at_ := Blk.below hR2 hb5' (Blk.lt hR2)
      have hv5 : VOwn w5 (fun g => z < g ∧ g < w5.heap.size) v #[.int .i64 k, .int .i64 i, .float .f64 f, .string s, .slice A' n' c'] := hv.mono (fun g hgl hg => by have h9 : w2.heap.size ≤ g := hg; exact ⟨by omega, hgl⟩)
      refine hK _ _ _ (fun _ h => h) ⟨Blk.cell hR5 0, Blk.cell hR5 1, hb5'⟩ ?_
      clear hK K hS hb5 hv
      try simp only [Act.put, List.setIfInBounds_toArray, List.set_cons_zero, List.set_cons_succ]
      repeat (first | (refine lexG_take _ ?_ rfl rfl rfl rfl (fun _ => ?_) ?_; rotate_left; (focus (go_simp; with_reducible rfl)); try simp only [Act.put, List.setIfInBounds_toArray, List.set_cons_zero, List.set_cons_succ]) | (refine lexG_held _ ?_ rfl rfl rfl rfl (by assumption) (fun _ hSw => ?_) ?_; rotate_left; (focus ((try dsimp only at hSw); go_simp; with_reducible rfl)); try simp only [Act.put, List.setIfInBounds_toArray, List.set_cons_zero, List.set_cons_succ]) | (refine lexG_skip _ rfl rfl (by assumption) ?_; try simp only [Act.put, List.setIfInBounds_toArray, List.set_cons_zero, List.set_cons_succ]))
      refine lexG_now _ rfl rfl rfl (fun K hK => ?_)
      go_simp
      have hb6 := hb5'.alloc hb5'.size (.cells #[.int .i64 0, .int .i64 0, .float .f64 0, .string ⟨#[]⟩, .slice none 0 0] 110)
      have hR6 : CAt (w5.alloc (.cells #[.int .i64 0, .int .i64 0, .float .f64 0, .string ⟨#[]⟩, .slice none 0 0] 110)) r (some ad) mm c at_ := Blk.alloc hR5 (.cells #[.int .i64 0, .int .i64 0, .float .f64 0, .string ⟨#[]⟩, .slice none 0 0] 110)
      have hz6 := hz5.alloc (.cells #[.int .i64 0, .int .i64 0, .float .f64 0, .string ⟨#[]⟩, .slice none 0 0] 110)
      have h3 := Blk.new w5 110 #[.int .i64 0, .int .i64 0, .float .f64 0, .string ⟨#[]⟩, .slice none 0 0]
      have hv6 := hv5.upd ((Upd.refl (fun _ => False) w5).alloc (.cells #[.int .i64 0, .int .i64 0, .float .f64 0, .string ⟨#[]⟩, .slice none 0 0] 110)) (fun _ _ h => h)
      have hz5l := hz5.lt
      have hr5l := Blk.lt hR5
      refine hK _ _ _ (fun _ h => h) ⟨Blk.cell hR6 0, Blk.cell hR6 1, hb6⟩ ?_
      clear hK K
      try simp only [Act.put, List.setIfInBounds_toArray, List.set_cons_zero, List.set_cons_succ]
      repeat (first | (refine lexG_take _ ?_ rfl rfl rfl rfl (fun _ => ?_) ?_; rotate_left; (focus (go_simp; with_reducible rfl)); try simp only [Act.put, List.setIfInBounds_toArray, List.set_cons_zero, List.set_cons_succ]) | (refine lexG_held _ ?_ rfl rfl rfl rfl (by assumption) (fun _ hSw => ?_) ?_; rotate_left; (focus ((try dsimp only at hSw); go_simp; with_reducible rfl)); try simp only [Act.put, List.setIfInBounds_toArray, List.set_cons_zero, List.set_cons_succ]) | (refine lexG_skip _ rfl rfl (by assumption) ?_; try simp only [Act.put, List.setIfInBounds_toArray, List.set_cons_zero, List.set_cons_succ]))
      refine lexG_now _ rfl rfl rfl (fun K hK => ?_)
      refine wp_store_row 110 (Operand.tmp 3) (Operand.tmp 17) rfl w5.heap.size #[.int .i64 k, .int .i64 i, .float .f64 f, .string s, .slice A' n' c'] (by simp [go_sem]) (by simp [go_sem]) 110 _ h3 (by kernel_rfl) rfl (by simp [Value.oneCell']) ?_
      have hb7 := below_row hb6 (g := w5.heap.size) hb5'.size #[.int .i64 k, .int .i64 i, .float .f64 f, .string s, .slice A' n' c']
      have hR7 : CAt ((w5.alloc (.cells #[.int .i64 0, .int .i64 0, .float .f64 0, .string ⟨#[]⟩, .slice none 0 0] 110)).setRow w5.heap.size #[.int .i64 k, .int .i64 i, .float .f64 f, .string s, .slice A' n' c']) r (some ad) mm c at_ := Blk.farRow hR6 (by omega) #[.int .i64 k, .int .i64 i, .float .f64 f, .string s, .slice A' n' c']
      have hz7 := hz6.farRow (g := w5.heap.size) (by omega) #[.int .i64 k, .int .i64 i, .float .f64 f, .string s, .slice A' n' c']
      have h37 := h3.row #[.int .i64 k, .int .i64 i, .float .f64 f, .string s, .slice A' n' c']
      have hv7 := hv6.upd ((Upd.refl (fun x => x = w5.heap.size) (w5.alloc (.cells #[.int .i64 0, .int .i64 0, .float .f64 0, .string ⟨#[]⟩, .slice none 0 0] 110))).setRow (g := w5.heap.size) (fun _ => rfl) #[.int .i64 k, .int .i64 i, .float .f64 f, .string s, .slice A' n' c']) (fun g hg e => by omega)
      refine hK _ _ _ (fun _ h => h) ⟨Blk.cell hR7 0, Blk.cell hR7 1, hb7⟩ ?_
      clear hK K
      try simp only [Act.put, List.setIfInBounds_toArray, List.set_cons_zero, List.set_cons_succ]
      repeat (first | (refine lexG_take _ ?_ rfl rfl rfl rfl (fun _ => ?_) ?_; rotate_left; (focus (go_simp; with_reducible rfl)); try simp only [Act.put, List.setIfInBounds_toArray, List.set_cons_zero, List.set_cons_succ]) | (refine lexG_held _ ?_ rfl rfl rfl rfl (by assumption) (fun _ hSw => ?_) ?_; rotate_left; (focus ((try dsimp only at hSw); go_simp; with_reducible rfl)); try simp only [Act.put, List.setIfInBounds_toArray, List.set_cons_zero, List.set_cons_succ]) | (refine lexG_skip _ rfl rfl (by assumption) ?_; try simp only [Act.put, List.setIfInBounds_toArray, List.set_cons_zero, List.set_cons_succ]))
      refine lexG_nil ?_
      go_wp2_with fail
      go_meet
      exact ⟨w5.heap.size, k, i, f, s, A', n', c', rfl, rfl, rfl, hz5l, h37, hv7.mono (fun g _ hg => hg.1), hz7, hR7, hb7⟩
    · refine lexG_now _ rfl rfl rfl (fun K hK => ?_)
      go_simp
      have hb3 : Below w2.heap.size w2 (w2.alloc (.cells #[.int .i64 0, .int .i64 0, .float .f64 0, .string ⟨#[]⟩, .slice none 0 0] 110)).drew := below_drewN ((Below.refl w2.heap.size w2).alloc (Nat.le_refl _) (.cells #[.int .i64 0, .int .i64 0, .float .f64 0, .string ⟨#[]⟩, .slice none 0 0] 110)) 1
      have hR3 : CAt (w2.alloc (.cells #[.int .i64 0, .int .i64 0, .float .f64 0, .string ⟨#[]⟩, .slice none 0 0] 110)).drew r (some ad) mm c at_ := Blk.drew (Blk.alloc hR2 (.cells #[.int .i64 0, .int .i64 0, .float .f64 0, .string ⟨#[]⟩, .slice none 0 0] 110))
      have hz3 := (hz.alloc (.cells #[.int .i64 0, .int .i64 0, .float .f64 0, .string ⟨#[]⟩, .slice none 0 0] 110)).drew
      have h3 := (Blk.new w2 110 #[.int .i64 0, .int .i64 0, .float .f64 0, .string ⟨#[]⟩, .slice none 0 0]).drew
      have hs3 : (w2.alloc (.cells #[.int .i64 0, .int .i64 0, .float .f64 0, .string ⟨#[]⟩, .slice none 0 0] 110)).drew.heap.size = w2.heap.size + 1 := by simp
      refine hK _ _ _ (fun _ h => h) ⟨Blk.cell hR3 0, Blk.cell hR3 1, hb3⟩ ?_
      clear hK K hS
      generalize (w2.alloc (.cells #[.int .i64 0, .int .i64 0, .float .f64 0, .string ⟨#[]⟩, .slice none 0 0] 110)).drew = w3 at *
      try simp only [Act.put, List.setIfInBounds_toArray, List.set_cons_zero, List.set_cons_succ]
      repeat (first | (refine lexG_take _ ?_ rfl rfl rfl rfl (fun _ => ?_) ?_; rotate_left; (focus (go_simp; with_reducible rfl)); try simp only [Act.put, List.setIfInBounds_toArray, List.set_cons_zero, List.set_cons_succ]) | (refine lexG_held _ ?_ rfl rfl rfl rfl (by assumption) (fun _ hSw => ?_) ?_; rotate_left; (focus ((try dsimp only at hSw); go_simp; with_reducible rfl)); try simp only [Act.put, List.setIfInBounds_toArray, List.set_cons_zero, List.set_cons_succ]) | (refine lexG_skip _ rfl rfl (by assumption) ?_; try simp only [Act.put, List.setIfInBounds_toArray, List.set_cons_zero, List.set_cons_succ]))
      refine lexG_now _ rfl rfl rfl (fun K hK => ?_)
      go_wp2_with fail
      rw [← hdl.out]
      refine (hrv.out _ (hb2.trans (hb3.mono (by omega)))).mono ?_
      rintro e w5 ⟨cs, rfl, hv, hb5⟩
      obtain ⟨k, i, f, s, A', n', c', hform⟩ := hv.reads.form
      subst hform
      dsimp only
      have hb5' : Below w2.heap.size w2 w5 := below_then hb5 hb3
      have hz5 := hz3.below hb5 hz3.lt
      have hR5 : CAt w5 r (some ad) mm c at_ := Blk.below hR3 hb5 (Blk.lt hR3)
      have h35 := h3.below hb5 h3.lt
      have hv5 : VOwn w5 (fun g => w2.heap.size < g) v #[.int .i64 k, .int .i64 i, .float .f64 f, .string s, .slice A' n' c'] := hv.mono (fun g hgl hg => by have h9 : w3.heap.size ≤ g := hg; omega)
      refine hK _ _ _ (fun _ h => h) ⟨Blk.cell hR5 0, Blk.cell hR5 1, hb5'⟩ ?_
      clear hK K hb5 hv
      try simp only [Act.put, List.setIfInBounds_toArray, List.set_cons_zero, List.set_cons_succ]
      repeat (first | (refine lexG_take _ ?_ rfl rfl rfl rfl (fun _ => ?_) ?_; rotate_left; (focus (go_simp; with_reducible rfl)); try simp only [Act.put, List.setIfInBounds_toArray, List.set_cons_zero, List.set_cons_succ]) | (refine lexG_held _ ?_ rfl rfl rfl rfl (by assumption) (fun _ hSw => ?_) ?_; rotate_left; (focus ((try dsimp only at hSw); go_simp; with_reducible rfl)); try simp only [Act.put, List.setIfInBounds_toArray, List.set_cons_zero, List.set_cons_succ]) | (refine lexG_skip _ rfl rfl (by assumption) ?_; try simp only [Act.put, List.setIfInBounds_toArray, List.set_cons_zero, List.set_cons_succ]))
      refine lexG_now _ rfl rfl rfl (fun K hK => ?_)
      refine wp_store_row 110 (Operand.tmp 3) (Operand.tmp 17) rfl w2.heap.size #[.int .i64 k, .int .i64 i, .float .f64 f, .string s, .slice A' n' c'] (by simp [go_sem]) (by simp [go_sem]) 110 _ h35 (by kernel_rfl) rfl (by simp [Value.oneCell']) ?_
      have hzl := hz.lt
      have hr2l := Blk.lt hR2
      have hb7 := below_row hb5' (g := w2.heap.size) (Nat.le_refl _) #[.int .i64 k, .int .i64 i, .float .f64 f, .string s, .slice A' n' c']
      have hR7 : CAt (w5.setRow w2.heap.size #[.int .i64 k, .int .i64 i, .float .f64 f, .string s, .slice A' n' c']) r (some ad) mm c at_ := Blk.farRow hR5 (by omega) #[.int .i64 k, .int .i64 i, .float .f64 f, .string s, .slice A' n' c']
      have hz7 := hz5.farRow (g := w2.heap.size) (by omega) #[.int .i64 k, .int .i64 i, .float .f64 f, .string s, .slice A' n' c']
      have h37 := h35.row #[.int .i64 k, .int .i64 i, .float .f64 f, .string s, .slice A' n' c']
      have hv7 := hv5.upd ((Upd.refl (fun x => x = w2.heap.size) w5).setRow (g := w2.heap.size) (fun _ => rfl) #[.int .i64 k, .int .i64 i, .float .f64 f, .string s, .slice A' n' c']) (fun g hg e => by omega)
      refine hK _ _ _ (fun _ h => h) ⟨Blk.cell hR7 0, Blk.cell hR7 1, hb7⟩ ?_
      clear hK K
      try simp only [Act.put, List.setIfInBounds_toArray, List.set_cons_zero, List.set_cons_succ]
      repeat (first | (refine lexG_take _ ?_ rfl rfl rfl rfl (fun _ => ?_) ?_; rotate_left; (focus (go_simp; with_reducible rfl)); try simp only [Act.put, List.setIfInBounds_toArray, List.set_cons_zero, List.set_cons_succ]) | (refine lexG_held _ ?_ rfl rfl rfl rfl (by assumption) (fun _ hSw => ?_) ?_; rotate_left; (focus ((try dsimp only at hSw); go_simp; with_reducible rfl)); try simp only [Act.put, List.setIfInBounds_toArray, List.set_cons_zero, List.set_cons_succ]) | (refine lexG_skip _ rfl rfl (by assumption) ?_; try simp only [Act.put, List.setIfInBounds_toArray, List.set_cons_zero, List.set_cons_succ]))
      refine lexG_nil ?_
      go_wp2_with fail
      go_meet
      exact ⟨w2.heap.size, k, i, f, s, A', n', c', by rw [hw2], rfl, rfl, hzl, h37, hv7.mono (fun g _ hg => by omega), hz7, hR7, hb7⟩
  case rest =>
    obtain ⟨g3, k, i, f, s, A', n', c', rfl, rfl, rfl, hzg, h3, hv, hzc, hRc, hbc⟩ := hcut
    go_wp2_with fail
    refine (cmust_ok _).mono ?_
    rintro e w8 ⟨rfl, rfl⟩
    dsimp only
    have e0 := Blk.cell hRc 0
    have e1 := Blk.cell hRc 1
    have hf1 := Blk.frozen hRc 1
    have hr3 := hRc
    unfold CAt at hr3
    have hne3 := h3.ne_ hr3 (by decide)
    have hnez := hzc.ne_ hr3 (by decide)
    have hset := Blk.set_ hr3 1 (.int .i64 ((at_ : Int) + (m : Int)))
    have h3s := h3.far (p := ⟨r, 1, none⟩) (show g3 ≠ r from hne3) (.int .i64 ((at_ : Int) + (m : Int)))
    have hzs := hzc.far (p := ⟨r, 1, none⟩) (show z ≠ r from hnez) (.int .i64 ((at_ : Int) + (m : Int)))
    have hvs := hv.upd ((Upd.refl (fun x => x = r) wc).setCell (p := ⟨r, 1, none⟩) (fun _ => rfl) (.int .i64 ((at_ : Int) + (m : Int)))) (fun g hg e => by omega)
    have hus := ((Upd.refl (fun x => x = r) w).thenBelow (hb2.trans (hbc.mono (by omega))) (Nat.le_refl _)).setCell (p := ⟨r, 1, none⟩) (fun _ => rfl) (.int .i64 ((at_ : Int) + (m : Int)))
    have y0 := h3s.cell 0
    have y1 := h3s.cell 1
    have y2 := h3s.cell 2
    have y3 := h3s.cell 3
    have y4 := h3s.cell 4
    have hzr := hzs.row #[.int .i64 k, .int .i64 i, .float .f64 f, .string s, .slice A' n' c']
    have hsr := hset.farRow (g := z) (show r ≠ z from fun e => hnez e.symm) #[.int .i64 k, .int .i64 i, .float .f64 f, .string s, .slice A' n' c']
    have hvr := hvs.upd ((Upd.refl (fun x => x = z) (wc.setCell ⟨r, 1, none⟩ (.int .i64 ((at_ : Int) + (m : Int))))).setRow (g := z) (fun _ => rfl) #[.int .i64 k, .int .i64 i, .float .f64 f, .string s, .slice A' n' c']) (fun g hg e => by omega)
    have hur := hus.setRow (g := z) (fun h => by omega) #[.int .i64 k, .int .i64 i, .float .f64 f, .string s, .slice A' n' c']
    clear h3 hv hzc hRc hr3 hset h3s hvs hus hbc
    go_wp2_with (refine store_row_gen rfl 110 (Operand.tmp 2) _ rfl z #[.int .i64 k, .int .i64 i, .float .f64 f, .string s, .slice A' n' c'] (by simp [go_sem]) (by simp [go_sem]) 110 _ hzs (by kernel_rfl) rfl (by simp [Value.oneCell']) (fun w9 hw9 => ?_); rw [← hw9] at hzr hsr hvr hur; clear hw9)
    refine bodyPost_ret (v := .agg #[.int .i64 k, .int .i64 i, .float .f64 f, .string s, .slice A' n' c']) ?hr rfl ?_
    case hr => exact results_cell_row rfl _ _ z 110 _ (0, 0) _ rfl hzr Try.underlying110 rfl (by kernel_rfl)
    refine ⟨_, rfl, hvr.mono (fun g _ hg => by omega), ?_, hur⟩
    have e : ((at_ + m : Nat) : Int) = (at_ : Int) + (m : Int) := by omega
    unfold CAt
    rw [e]
    exact hsr
end Go.Proofs.Ytjljlgkghlphnaa
namespace Go.Proofs.Ytjljlgkghlphnaa
open Go.RowKit
set_option maxRecDepth 100000

set_option maxHeartbeats 3200000 in
theorem cvalue_no_nil {r : Nat} {w : World} (h : CAt w r none 0 0 0) :
    Calls Try.prog 89 #[.pointer (some ⟨r, 0, none⟩)] w (fun e w' => e = .panicked shortC ∧ Below w.heap.size w w') := by
  have hsf := fun a k x m w => run_store_float (P := Try.prog) a k x m w
  have hrl : r < w.heap.size := Blk.lt h
  have hrv : ∀ w1, Below w.heap.size w w1 → Calls Try.prog 102 #[.slice none 0 0] w1 (fun e w' => e = .returned (.tuple #[.agg #[.int .i64 0, .int .i64 0, .float .f64 0, .string ⟨#[]⟩, .slice none 0 0], .int .i64 0, .int .i64 20]) ∧ Below w1.heap.size w1 w') := fun w1 hb1 => by
    have hx := wire_read_v (b := []) (A := none) (c := 0) (w := w1) Reads.none_ (fun _ => rfl) (Nat.le_refl _) (by simp)
    exact hx
  have hz := Blk.new w 110 #[.int .i64 0, .int .i64 0, .float .f64 0, .string ⟨#[]⟩, .slice none 0 0]
  have hw2 : (w.alloc (.cells #[.int .i64 0, .int .i64 0, .float .f64 0, .string ⟨#[]⟩, .slice none 0 0] 110)).heap.size = w.heap.size + 1 := by simp
  have hR2 : CAt (w.alloc (.cells #[.int .i64 0, .int .i64 0, .float .f64 0, .string ⟨#[]⟩, .slice none 0 0] 110)) r none 0 0 0 := Blk.alloc h (.cells #[.int .i64 0, .int .i64 0, .float .f64 0, .string ⟨#[]⟩, .slice none 0 0] 110)
  have hb2 := (Below.refl w.heap.size w).alloc (Nat.le_refl _) (.cells #[.int .i64 0, .int .i64 0, .float .f64 0, .string ⟨#[]⟩, .slice none 0 0] 110)
  clear h
  replace hrv := Lib.hid hrv
  go_enter Try.func89, Try.ntmps89
  go_wp2_with fail
  generalize w.alloc (.cells #[.int .i64 0, .int .i64 0, .float .f64 0, .string ⟨#[]⟩, .slice none 0 0] 110) = w2 at *
  go_upto_region 1 with (fail)
  go_cut [3, 4, 5] from 6 to 19 (fun p3 v4 v5 wx => v5 = .int .i64 20 ∧ Below w2.heap.size w2 wx)
  case first =>
    have hS : w2.drew.cell? ⟨r, 0, none⟩ = some (.slice none 0 0) ∧ w2.drew.cell? ⟨r, 1, none⟩ = some (.int .i64 ((0 : Nat) : Int)) ∧ Below w2.heap.size w2 w2.drew := ⟨Blk.cell hR2 0, Blk.cell hR2 1, (Below.refl _ _).drew⟩
    refine wp_region_pair (fun W => W.cell? ⟨r, 0, none⟩ = some (.slice none 0 0) ∧ W.cell? ⟨r, 1, none⟩ = some (.int .i64 ((0 : Nat) : Int)) ∧ Below w2.heap.size w2 W) [3, 7] [9, 14, 15] [0, 1, 2, 3, 4, 5, 6, 7, 8] 9 14 [10, 11, 12, 13, 14, 15, 16, 17] [9, 10, 11, 12, 13, 15, 16, 17] (by kernel_rfl) rfl rfl (by kernel_rfl) (by kernel_rfl) (by kernel_rfl) rfl rfl (by kernel_rfl) (by kernel_rfl) (fun _ _ d _ _ h => by cases d <;> exact h) ?_
    repeat (first | (refine lexG_take _ ?_ rfl rfl rfl rfl (fun _ => ?_) ?_; rotate_left; (focus (go_simp; with_reducible rfl)); try simp only [Act.put, List.setIfInBounds_toArray, List.set_cons_zero, List.set_cons_succ]) | (refine lexG_held _ ?_ rfl rfl rfl rfl (by assumption) (fun _ hSw => ?_) ?_; rotate_left; (focus ((try dsimp only at hSw); go_simp; with_reducible rfl)); try simp only [Act.put, List.setIfInBounds_toArray, List.set_cons_zero, List.set_cons_succ]) | (refine lexG_skip _ rfl rfl (by assumption) ?_; try simp only [Act.put, List.setIfInBounds_toArray, List.set_cons_zero, List.set_cons_succ]))
    refine lexG_nil ?_
    refine ⟨?_, ?_⟩
    · refine lexG_now _ rfl rfl rfl (fun K hK => ?_)
      go_wp2_with fail
      refine (hrv.out _ (hb2.trans (hS.2.2.mono (by omega)))).mono ?_
      rintro e w5 ⟨rfl, hb5⟩
      dsimp only
      have hb5' : Below w2.heap.size w2 w5 := below_then hb5 hS.2.2
      have hR5 : CAt w5 r none 0 0 0 := Blk.below hR2 hb5' (Blk.lt hR2)
      refine hK _ _ _ (fun _ h => h) ⟨Blk.cell hR5 0, Blk.cell hR5 1, hb5'⟩ ?_
      clear hK K hS hb5
      try simp only [Act.put, List.setIfInBounds_toArray, List.set_cons_zero, List.set_cons_succ]
      repeat (first | (refine lexG_take _ ?_ rfl rfl rfl rfl (fun _ => ?_) ?_; rotate_left; (focus (go_simp; with_reducible rfl)); try simp only [Act.put, List.setIfInBounds_toArray, List.set_cons_zero, List.set_cons_succ]) | (refine lexG_held _ ?_ rfl rfl rfl rfl (by assumption) (fun _ hSw => ?_) ?_; rotate_left; (focus ((try dsimp only at hSw); go_simp; with_reducible rfl)); try simp only [Act.put, List.setIfInBounds_toArray, List.set_cons_zero, List.set_cons_succ]) | (refine lexG_skip _ rfl rfl (by assumption) ?_; try simp only [Act.put, List.setIfInBounds_toArray, List.set_cons_zero, List.set_cons_succ]))
      refine lexG_now _ rfl rfl rfl (fun K hK => ?_)
      go_simp
      have hb6 := hb5'.alloc hb5'.size (.cells #[.int .i64 0, .int .i64 0, .float .f64 0, .string ⟨#[]⟩, .slice none 0 0] 110)
      have hR6 : CAt (w5.alloc (.cells #[.int .i64 0, .int .i64 0, .float .f64 0, .string ⟨#[]⟩, .slice none 0 0] 110)) r none 0 0 0 := Blk.alloc hR5 (.cells #[.int .i64 0, .int .i64 0, .float .f64 0, .string ⟨#[]⟩, .slice none 0 0] 110)
      have h3 := Blk.new w5 110 #[.int .i64 0, .int .i64 0, .float .f64 0, .string ⟨#[]⟩, .slice none 0 0]
      have hr5l := Blk.lt hR5
      refine hK _ _ _ (fun _ h => h) ⟨Blk.cell hR6 0, Blk.cell hR6 1, hb6⟩ ?_
      clear hK K
      try simp only [Act.put, List.setIfInBounds_toArray, List.set_cons_zero, List.set_cons_succ]
      repeat (first | (refine lexG_take _ ?_ rfl rfl rfl rfl (fun _ => ?_) ?_; rotate_left; (focus (go_simp; with_reducible rfl)); try simp only [Act.put, List.setIfInBounds_toArray, List.set_cons_zero, List.set_cons_succ]) | (refine lexG_held _ ?_ rfl rfl rfl rfl (by assumption) (fun _ hSw => ?_) ?_; rotate_left; (focus ((try dsimp only at hSw); go_simp; with_reducible rfl)); try simp only [Act.put, List.setIfInBounds_toArray, List.set_cons_zero, List.set_cons_succ]) | (refine lexG_skip _ rfl rfl (by assumption) ?_; try simp only [Act.put, List.setIfInBounds_toArray, List.set_cons_zero, List.set_cons_succ]))
      refine lexG_now _ rfl rfl rfl (fun K hK => ?_)
      refine wp_store_row 110 (Operand.tmp 3) (Operand.tmp 17) rfl w5.heap.size #[.int .i64 0, .int .i64 0, .float .f64 0, .string ⟨#[]⟩, .slice none 0 0] (by simp [go_sem]) (by simp [go_sem]) 110 _ h3 (by kernel_rfl) rfl (by simp [Value.oneCell']) ?_
      have hb7 := below_row hb6 (g := w5.heap.size) hb5'.size #[.int .i64 0, .int .i64 0, .float .f64 0, .string ⟨#[]⟩, .slice none 0 0]
      have hR7 : CAt ((w5.alloc (.cells #[.int .i64 0, .int .i64 0, .float .f64 0, .string ⟨#[]⟩, .slice none 0 0] 110)).setRow w5.heap.size #[.int .i64 0, .int .i64 0, .float .f64 0, .string ⟨#[]⟩, .slice none 0 0]) r none 0 0 0 := Blk.farRow hR6 (by omega) #[.int .i64 0, .int .i64 0, .float .f64 0, .string ⟨#[]⟩, .slice none 0 0]
      refine hK _ _ _ (fun _ h => h) ⟨Blk.cell hR7 0, Blk.cell hR7 1, hb7⟩ ?_
      clear hK K
      try simp only [Act.put, List.setIfInBounds_toArray, List.set_cons_zero, List.set_cons_succ]
      repeat (first | (refine lexG_take _ ?_ rfl rfl rfl rfl (fun _ => ?_) ?_; rotate_left; (focus (go_simp; with_reducible rfl)); try simp only [Act.put, List.setIfInBounds_toArray, List.set_cons_zero, List.set_cons_succ]) | (refine lexG_held _ ?_ rfl rfl rfl rfl (by assumption) (fun _ hSw => ?_) ?_; rotate_left; (focus ((try dsimp only at hSw); go_simp; with_reducible rfl)); try simp only [Act.put, List.setIfInBounds_toArray, List.set_cons_zero, List.set_cons_succ]) | (refine lexG_skip _ rfl rfl (by assumption) ?_; try simp only [Act.put, List.setIfInBounds_toArray, List.set_cons_zero, List.set_cons_succ]))
      refine lexG_nil ?_
      go_wp2_with fail
      go_meet
      exact ⟨rfl, hb7⟩
    · refine lexG_now _ rfl rfl rfl (fun K hK => ?_)
      go_simp
      have hb3 : Below w2.heap.size w2 (w2.alloc (.cells #[.int .i64 0, .int .i64 0, .float .f64 0, .string ⟨#[]⟩, .slice none 0 0] 110)).drew := below_drewN ((Below.refl w2.heap.size w2).alloc (Nat.le_refl _) (.cells #[.int .i64 0, .int .i64 0, .float .f64 0, .string ⟨#[]⟩, .slice none 0 0] 110)) 1
      have hR3 : CAt (w2.alloc (.cells #[.int .i64 0, .int .i64 0, .float .f64 0, .string ⟨#[]⟩, .slice none 0 0] 110)).drew r none 0 0 0 := Blk.drew (Blk.alloc hR2 (.cells #[.int .i64 0, .int .i64 0, .float .f64 0, .string ⟨#[]⟩, .slice none 0 0] 110))
      have h3 := (Blk.new w2 110 #[.int .i64 0, .int .i64 0, .float .f64 0, .string ⟨#[]⟩, .slice none 0 0]).drew
      refine hK _ _ _ (fun _ h => h) ⟨Blk.cell hR3 0, Blk.cell hR3 1, hb3⟩ ?_
      clear hK K hS
      generalize (w2.alloc (.cells #[.int .i64 0, .int .i64 0, .float .f64 0, .string ⟨#[]⟩, .slice none 0 0] 110)).drew = w3 at *
      try simp only [Act.put, List.setIfInBounds_toArray, List.set_cons_zero, List.set_cons_succ]
      repeat (first | (refine lexG_take _ ?_ rfl rfl rfl rfl (fun _ => ?_) ?_; rotate_left; (focus (go_simp; with_reducible rfl)); try simp only [Act.put, List.setIfInBounds_toArray, List.set_cons_zero, List.set_cons_succ]) | (refine lexG_held _ ?_ rfl rfl rfl rfl (by assumption) (fun _ hSw => ?_) ?_; rotate_left; (focus ((try dsimp only at hSw); go_simp; with_reducible rfl)); try simp only [Act.put, List.setIfInBounds_toArray, List.set_cons_zero, List.set_cons_succ]) | (refine lexG_skip _ rfl rfl (by assumption) ?_; try simp only [Act.put, List.setIfInBounds_toArray, List.set_cons_zero, List.set_cons_succ]))
      refine lexG_now _ rfl rfl rfl (fun K hK => ?_)
      go_wp2_with fail
      refine (hrv.out _ (hb2.trans (hb3.mono (by omega)))).mono ?_
      rintro e w5 ⟨rfl, hb5⟩
      dsimp only
      have hb5' : Below w2.heap.size w2 w5 := below_then hb5 hb3
      have hR5 : CAt w5 r none 0 0 0 := Blk.below hR3 hb5 (Blk.lt hR3)
      have h35 := h3.below hb5 h3.lt
      refine hK _ _ _ (fun _ h => h) ⟨Blk.cell hR5 0, Blk.cell hR5 1, hb5'⟩ ?_
      clear hK K hb5
      try simp only [Act.put, List.setIfInBounds_toArray, List.set_cons_zero, List.set_cons_succ]
      repeat (first | (refine lexG_take _ ?_ rfl rfl rfl rfl (fun _ => ?_) ?_; rotate_left; (focus (go_simp; with_reducible rfl)); try simp only [Act.put, List.setIfInBounds_toArray, List.set_cons_zero, List.set_cons_succ]) | (refine lexG_held _ ?_ rfl rfl rfl rfl (by assumption) (fun _ hSw => ?_) ?_; rotate_left; (focus ((try dsimp only at hSw); go_simp; with_reducible rfl)); try simp only [Act.put, List.setIfInBounds_toArray, List.set_cons_zero, List.set_cons_succ]) | (refine lexG_skip _ rfl rfl (by assumption) ?_; try simp only [Act.put, List.setIfInBounds_toArray, List.set_cons_zero, List.set_cons_succ]))
      refine lexG_now _ rfl rfl rfl (fun K hK => ?_)
      refine wp_store_row 110 (Operand.tmp 3) (Operand.tmp 17) rfl w2.heap.size #[.int .i64 0, .int .i64 0, .float .f64 0, .string ⟨#[]⟩, .slice none 0 0] (by simp [go_sem]) (by simp [go_sem]) 110 _ h35 (by kernel_rfl) rfl (by simp [Value.oneCell']) ?_
      have hr2l := Blk.lt hR2
      have hb7 := below_row hb5' (g := w2.heap.size) (Nat.le_refl _) #[.int .i64 0, .int .i64 0, .float .f64 0, .string ⟨#[]⟩, .slice none 0 0]
      have hR7 : CAt (w5.setRow w2.heap.size #[.int .i64 0, .int .i64 0, .float .f64 0, .string ⟨#[]⟩, .slice none 0 0]) r none 0 0 0 := Blk.farRow hR5 (by omega) #[.int .i64 0, .int .i64 0, .float .f64 0, .string ⟨#[]⟩, .slice none 0 0]
      refine hK _ _ _ (fun _ h => h) ⟨Blk.cell hR7 0, Blk.cell hR7 1, hb7⟩ ?_
      clear hK K
      try simp only [Act.put, List.setIfInBounds_toArray, List.set_cons_zero, List.set_cons_succ]
      repeat (first | (refine lexG_take _ ?_ rfl rfl rfl rfl (fun _ => ?_) ?_; rotate_left; (focus (go_simp; with_reducible rfl)); try simp only [Act.put, List.setIfInBounds_toArray, List.set_cons_zero, List.set_cons_succ]) | (refine lexG_held _ ?_ rfl rfl rfl rfl (by assumption) (fun _ hSw => ?_) ?_; rotate_left; (focus ((try dsimp only at hSw); go_simp; with_reducible rfl)); try simp only [Act.put, List.setIfInBounds_toArray, List.set_cons_zero, List.set_cons_succ]) | (refine lexG_skip _ rfl rfl (by assumption) ?_; try simp only [Act.put, List.setIfInBounds_toArray, List.set_cons_zero, List.set_cons_succ]))
      refine lexG_nil ?_
      go_wp2_with fail
      go_meet
      exact ⟨rfl, hb7⟩
  case rest =>
    obtain ⟨rfl, hbc⟩ := hcut
    go_wp2_with fail
    refine (cmust_no _).mono ?_
    rintro e w8 ⟨rfl, rfl⟩
    dsimp only
    have hfin := hb2.trans (hbc.mono hb2.size)
    go_wp2_with fail
    exact ⟨rfl, rfl, hfin⟩

set_option maxHeartbeats 3200000 in
theorem cvalue_no_end {ad : Addr} {m at_ r : Nat} {w : World} (h : CAt w r (some ad) m at_ at_) (hat : at_ ≤ m) (hm : m ≤ at_) :
    Calls Try.prog 89 #[.pointer (some ⟨r, 0, none⟩)] w (fun e w' => e = .panicked shortC ∧ Below w.heap.size w w') := by
  have hsf := fun a k x m w => run_store_float (P := Try.prog) a k x m w
  have hrl : r < w.heap.size := Blk.lt h
  have hm0 : m - at_ = 0 := by omega
  have hrv : ∀ w1, Below w.heap.size w w1 → Calls Try.prog 102 #[.slice (some ad) 0 0] w1 (fun e w' => e = .returned (.tuple #[.agg #[.int .i64 0, .int .i64 0, .float .f64 0, .string ⟨#[]⟩, .slice none 0 0], .int .i64 0, .int .i64 20]) ∧ Below w1.heap.size w1 w') := fun w1 hb1 => by
    have hx := wire_read_v (b := []) (A := some ad) (c := 0) (w := w1) ⟨by simp [bys], fun h => absurd h (by simp)⟩ (fun _ => rfl) (Nat.le_refl _) (by simp)
    exact hx
  clear hm0
  have hz := Blk.new w 110 #[.int .i64 0, .int .i64 0, .float .f64 0, .string ⟨#[]⟩, .slice none 0 0]
  have hw2 : (w.alloc (.cells #[.int .i64 0, .int .i64 0, .float .f64 0, .string ⟨#[]⟩, .slice none 0 0] 110)).heap.size = w.heap.size + 1 := by simp
  have hR2 : CAt (w.alloc (.cells #[.int .i64 0, .int .i64 0, .float .f64 0, .string ⟨#[]⟩, .slice none 0 0] 110)) r (some ad) m at_ at_ := Blk.alloc h (.cells #[.int .i64 0, .int .i64 0, .float .f64 0, .string ⟨#[]⟩, .slice none 0 0] 110)
  have hb2 := (Below.refl w.heap.size w).alloc (Nat.le_refl _) (.cells #[.int .i64 0, .int .i64 0, .float .f64 0, .string ⟨#[]⟩, .slice none 0 0] 110)
  clear h
  replace hrv := Lib.hid hrv
  go_enter Try.func89, Try.ntmps89
  go_wp2_with fail
  generalize w.alloc (.cells #[.int .i64 0, .int .i64 0, .float .f64 0, .string ⟨#[]⟩, .slice none 0 0] 110) = w2 at *
  go_upto_region 1 with (fail)
  go_cut [3, 4, 5] from 6 to 19 (fun p3 v4 v5 wx => v5 = .int .i64 20 ∧ Below w2.heap.size w2 wx)
  case first =>
    have hS : w2.drew.cell? ⟨r, 0, none⟩ = some (.slice (some ad) m at_) ∧ w2.drew.cell? ⟨r, 1, none⟩ = some (.int .i64 (at_ : Int)) ∧ Below w2.heap.size w2 w2.drew := ⟨Blk.cell hR2 0, Blk.cell hR2 1, (Below.refl _ _).drew⟩
    refine wp_region_pair (fun W => W.cell? ⟨r, 0, none⟩ = some (.slice (some ad) m at_) ∧ W.cell? ⟨r, 1, none⟩ = some (.int .i64 (at_ : Int)) ∧ Below w2.heap.size w2 W) [3, 7] [9, 14, 15] [0, 1, 2, 3, 4, 5, 6, 7, 8] 9 14 [10, 11, 12, 13, 14, 15, 16, 17] [9, 10, 11, 12, 13, 15, 16, 17] (by kernel_rfl) rfl rfl (by kernel_rfl) (by kernel_rfl) (by kernel_rfl) rfl rfl (by kernel_rfl) (by kernel_rfl) (fun _ _ d _ _ h => by cases d <;> exact h) ?_
    repeat (first | (refine lexG_take _ ?_ rfl rfl rfl rfl (fun _ => ?_) ?_; rotate_left; (focus (go_simp; with_reducible rfl)); try simp only [Act.put, List.setIfInBounds_toArray, List.set_cons_zero, List.set_cons_succ]) | (refine lexG_held _ ?_ rfl rfl rfl rfl (by assumption) (fun _ hSw => ?_) ?_; rotate_left; (focus ((try dsimp only at hSw); go_simp; with_reducible rfl)); try simp only [Act.put, List.setIfInBounds_toArray, List.set_cons_zero, List.set_cons_succ]) | (refine lexG_skip _ rfl rfl (by assumption) ?_; try simp only [Act.put, List.setIfInBounds_toArray, List.set_cons_zero, List.set_cons_succ]))
    refine lexG_nil ?_
    refine ⟨?_, ?_⟩
    · refine lexG_now _ rfl rfl rfl (fun K hK => ?_)
      go_wp2_with fail
      refine (hrv.out _ (hb2.trans (hS.2.2.mono (by omega)))).mono ?_
      rintro e w5 ⟨rfl, hb5⟩
      dsimp only
      have hb5' : Below w2.heap.size w2 w5 := below_then hb5 hS.2.2
      have hR5 : CAt w5 r (some ad) m at_ at_ := Blk.below hR2 hb5' (Blk.lt hR2)
      refine hK _ _ _ (fun _ h => h) ⟨Blk.cell hR5 0, Blk.cell hR5 1, hb5'⟩ ?_
      clear hK K hS hb5
      try simp only [Act.put, List.setIfInBounds_toArray, List.set_cons_zero, List.set_cons_succ]
      repeat (first | (refine lexG_take _ ?_ rfl rfl rfl rfl (fun _ => ?_) ?_; rotate_left; (focus (go_simp; with_reducible rfl)); try simp only [Act.put, List.setIfInBounds_toArray, List.set_cons_zero, List.set_cons_succ]) | (refine lexG_held _ ?_ rfl rfl rfl rfl (by assumption) (fun _ hSw => ?_) ?_; rotate_left; (focus ((try dsimp only at hSw); go_simp; with_reducible rfl)); try simp only [Act.put, List.setIfInBounds_toArray, List.set_cons_zero, List.set_cons_succ]) | (refine lexG_skip _ rfl rfl (by assumption) ?_; try simp only [Act.put, List.setIfInBounds_toArray, List.set_cons_zero, List.set_cons_succ]))
      refine lexG_now _ rfl rfl rfl (fun K hK => ?_)
      go_simp
      have hb6 := hb5'.alloc hb5'.size (.cells #[.int .i64 0, .int .i64 0, .float .f64 0, .string ⟨#[]⟩, .slice none 0 0] 110)
      have hR6 : CAt (w5.alloc (.cells #[.int .i64 0, .int .i64 0, .float .f64 0, .string ⟨#[]⟩, .slice none 0 0] 110)) r (some ad) m at_ at_ := Blk.alloc hR5 (.cells #[.int .i64 0, .int .i64 0, .float .f64 0, .string ⟨#[]⟩, .slice none 0 0] 110)
      have h3 := Blk.new w5 110 #[.int .i64 0, .int .i64 0, .float .f64 0, .string ⟨#[]⟩, .slice none 0 0]
      have hr5l := Blk.lt hR5
      refine hK _ _ _ (fun _ h => h) ⟨Blk.cell hR6 0, Blk.cell hR6 1, hb6⟩ ?_
      clear hK K
      try simp only [Act.put, List.setIfInBounds_toArray, List.set_cons_zero, List.set_cons_succ]
      repeat (first | (refine lexG_take _ ?_ rfl rfl rfl rfl (fun _ => ?_) ?_; rotate_left; (focus (go_simp; with_reducible rfl)); try simp only [Act.put, List.setIfInBounds_toArray, List.set_cons_zero, List.set_cons_succ]) | (refine lexG_held _ ?_ rfl rfl rfl rfl (by assumption) (fun _ hSw => ?_) ?_; rotate_left; (focus ((try dsimp only at hSw); go_simp; with_reducible rfl)); try simp only [Act.put, List.setIfInBounds_toArray, List.set_cons_zero, List.set_cons_succ]) | (refine lexG_skip _ rfl rfl (by assumption) ?_; try simp only [Act.put, List.setIfInBounds_toArray, List.set_cons_zero, List.set_cons_succ]))
      refine lexG_now _ rfl rfl rfl (fun K hK => ?_)
      refine wp_store_row 110 (Operand.tmp 3) (Operand.tmp 17) rfl w5.heap.size #[.int .i64 0, .int .i64 0, .float .f64 0, .string ⟨#[]⟩, .slice none 0 0] (by simp [go_sem]) (by simp [go_sem]) 110 _ h3 (by kernel_rfl) rfl (by simp [Value.oneCell']) ?_
      have hb7 := below_row hb6 (g := w5.heap.size) hb5'.size #[.int .i64 0, .int .i64 0, .float .f64 0, .string ⟨#[]⟩, .slice none 0 0]
      have hR7 : CAt ((w5.alloc (.cells #[.int .i64 0, .int .i64 0, .float .f64 0, .string ⟨#[]⟩, .slice none 0 0] 110)).setRow w5.heap.size #[.int .i64 0, .int .i64 0, .float .f64 0, .string ⟨#[]⟩, .slice none 0 0]) r (some ad) m at_ at_ := Blk.farRow hR6 (by omega) #[.int .i64 0, .int .i64 0, .float .f64 0, .string ⟨#[]⟩, .slice none 0 0]
      refine hK _ _ _ (fun _ h => h) ⟨Blk.cell hR7 0, Blk.cell hR7 1, hb7⟩ ?_
      clear hK K
      try simp only [Act.put, List.setIfInBounds_toArray, List.set_cons_zero, List.set_cons_succ]
      repeat (first | (refine lexG_take _ ?_ rfl rfl rfl rfl (fun _ => ?_) ?_; rotate_left; (focus (go_simp; with_reducible rfl)); try simp only [Act.put, List.setIfInBounds_toArray, List.set_cons_zero, List.set_cons_succ]) | (refine lexG_held _ ?_ rfl rfl rfl rfl (by assumption) (fun _ hSw => ?_) ?_; rotate_left; (focus ((try dsimp only at hSw); go_simp; with_reducible rfl)); try simp only [Act.put, List.setIfInBounds_toArray, List.set_cons_zero, List.set_cons_succ]) | (refine lexG_skip _ rfl rfl (by assumption) ?_; try simp only [Act.put, List.setIfInBounds_toArray, List.set_cons_zero, List.set_cons_succ]))
      refine lexG_nil ?_
      go_wp2_with fail
      go_meet
      exact ⟨rfl, hb7⟩
    · refine lexG_now _ rfl rfl rfl (fun K hK => ?_)
      go_simp
      have hb3 : Below w2.heap.size w2 (w2.alloc (.cells #[.int .i64 0, .int .i64 0, .float .f64 0, .string ⟨#[]⟩, .slice none 0 0] 110)).drew := below_drewN ((Below.refl w2.heap.size w2).alloc (Nat.le_refl _) (.cells #[.int .i64 0, .int .i64 0, .float .f64 0, .string ⟨#[]⟩, .slice none 0 0] 110)) 1
      have hR3 : CAt (w2.alloc (.cells #[.int .i64 0, .int .i64 0, .float .f64 0, .string ⟨#[]⟩, .slice none 0 0] 110)).drew r (some ad) m at_ at_ := Blk.drew (Blk.alloc hR2 (.cells #[.int .i64 0, .int .i64 0, .float .f64 0, .string ⟨#[]⟩, .slice none 0 0] 110))
      have h3 := (Blk.new w2 110 #[.int .i64 0, .int .i64 0, .float .f64 0, .string ⟨#[]⟩, .slice none 0 0]).drew
      refine hK _ _ _ (fun _ h => h) ⟨Blk.cell hR3 0, Blk.cell hR3 1, hb3⟩ ?_
      clear hK K hS
      generalize (w2.alloc (.cells #[.int .i64 0, .int .i64 0, .float .f64 0, .string ⟨#[]⟩, .slice none 0 0] 110)).drew = w3 at *
      try simp only [Act.put, List.setIfInBounds_toArray, List.set_cons_zero, List.set_cons_succ]
      repeat (first | (refine lexG_take _ ?_ rfl rfl rfl rfl (fun _ => ?_) ?_; rotate_left; (focus (go_simp; with_reducible rfl)); try simp only [Act.put, List.setIfInBounds_toArray, List.set_cons_zero, List.set_cons_succ]) | (refine lexG_held _ ?_ rfl rfl rfl rfl (by assumption) (fun _ hSw => ?_) ?_; rotate_left; (focus ((try dsimp only at hSw); go_simp; with_reducible rfl)); try simp only [Act.put, List.setIfInBounds_toArray, List.set_cons_zero, List.set_cons_succ]) | (refine lexG_skip _ rfl rfl (by assumption) ?_; try simp only [Act.put, List.setIfInBounds_toArray, List.set_cons_zero, List.set_cons_succ]))
      refine lexG_now _ rfl rfl rfl (fun K hK => ?_)
      go_wp2_with fail
      refine (hrv.out _ (hb2.trans (hb3.mono (by omega)))).mono ?_
      rintro e w5 ⟨rfl, hb5⟩
      dsimp only
      have hb5' : Below w2.heap.size w2 w5 := below_then hb5 hb3
      have hR5 : CAt w5 r (some ad) m at_ at_ := Blk.below hR3 hb5 (Blk.lt hR3)
      have h35 := h3.below hb5 h3.lt
      refine hK _ _ _ (fun _ h => h) ⟨Blk.cell hR5 0, Blk.cell hR5 1, hb5'⟩ ?_
      clear hK K hb5
      try simp only [Act.put, List.setIfInBounds_toArray, List.set_cons_zero, List.set_cons_succ]
      repeat (first | (refine lexG_take _ ?_ rfl rfl rfl rfl (fun _ => ?_) ?_; rotate_left; (focus (go_simp; with_reducible rfl)); try simp only [Act.put, List.setIfInBounds_toArray, List.set_cons_zero, List.set_cons_succ]) | (refine lexG_held _ ?_ rfl rfl rfl rfl (by assumption) (fun _ hSw => ?_) ?_; rotate_left; (focus ((try dsimp only at hSw); go_simp; with_reducible rfl)); try simp only [Act.put, List.setIfInBounds_toArray, List.set_cons_zero, List.set_cons_succ]) | (refine lexG_skip _ rfl rfl (by assumption) ?_; try simp only [Act.put, List.setIfInBounds_toArray, List.set_cons_zero, List.set_cons_succ]))
      refine lexG_now _ rfl rfl rfl (fun K hK => ?_)
      refine wp_store_row 110 (Operand.tmp 3) (Operand.tmp 17) rfl w2.heap.size #[.int .i64 0, .int .i64 0, .float .f64 0, .string ⟨#[]⟩, .slice none 0 0] (by simp [go_sem]) (by simp [go_sem]) 110 _ h35 (by kernel_rfl) rfl (by simp [Value.oneCell']) ?_
      have hr2l := Blk.lt hR2
      have hb7 := below_row hb5' (g := w2.heap.size) (Nat.le_refl _) #[.int .i64 0, .int .i64 0, .float .f64 0, .string ⟨#[]⟩, .slice none 0 0]
      have hR7 : CAt (w5.setRow w2.heap.size #[.int .i64 0, .int .i64 0, .float .f64 0, .string ⟨#[]⟩, .slice none 0 0]) r (some ad) m at_ at_ := Blk.farRow hR5 (by omega) #[.int .i64 0, .int .i64 0, .float .f64 0, .string ⟨#[]⟩, .slice none 0 0]
      refine hK _ _ _ (fun _ h => h) ⟨Blk.cell hR7 0, Blk.cell hR7 1, hb7⟩ ?_
      clear hK K
      try simp only [Act.put, List.setIfInBounds_toArray, List.set_cons_zero, List.set_cons_succ]
      repeat (first | (refine lexG_take _ ?_ rfl rfl rfl rfl (fun _ => ?_) ?_; rotate_left; (focus (go_simp; with_reducible rfl)); try simp only [Act.put, List.setIfInBounds_toArray, List.set_cons_zero, List.set_cons_succ]) | (refine lexG_held _ ?_ rfl rfl rfl rfl (by assumption) (fun _ hSw => ?_) ?_; rotate_left; (focus ((try dsimp only at hSw); go_simp; with_reducible rfl)); try simp only [Act.put, List.setIfInBounds_toArray, List.set_cons_zero, List.set_cons_succ]) | (refine lexG_skip _ rfl rfl (by assumption) ?_; try simp only [Act.put, List.setIfInBounds_toArray, List.set_cons_zero, List.set_cons_succ]))
      refine lexG_nil ?_
      go_wp2_with fail
      go_meet
      exact ⟨rfl, hb7⟩
  case rest =>
    obtain ⟨rfl, hbc⟩ := hcut
    go_wp2_with fail
    refine (cmust_no _).mono ?_
    rintro e w8 ⟨rfl, rfl⟩
    dsimp only
    have hfin := hb2.trans (hbc.mono hb2.size)
    go_wp2_with fail
    exact ⟨rfl, rfl, hfin⟩

set_option maxHeartbeats 3200000 in
theorem cvalue_no_mid {ad : Addr} {c B r at_ : Nat} {b : List UInt8} {w : World} (h : CAt w r (some ad) b.length c at_) (hr : Reads w B 1 (some ad) b.length (bys b)) (hB : B ≤ r) (hc : b.length ≤ c) (hl : b.length ≤ 1000000000) (hat : at_ ≤ b.length) (hac : at_ < c) (ho : rdV (b.drop at_) = none) :
    Calls Try.prog 89 #[.pointer (some ⟨r, 0, none⟩)] w (fun e w' => e = .panicked shortC ∧ Below w.heap.size w w') := by
  have hsf := fun a k x m w => run_store_float (P := Try.prog) a k x m w
  have hrl : r < w.heap.size := Blk.lt h
  have hne : ¬ c = at_ := by omega
  obtain ⟨d, hd⟩ : ∃ d, b.drop at_ = d := ⟨_, rfl⟩
  have hdl : d.length = b.length - at_ := by rw [← hd, List.length_drop]
  rw [hd] at ho
  have hcut := hr.cut (k := at_) (cap := c) (by omega) hc
  rw [if_neg (by omega), Nat.mul_one, bys_drop, hd] at hcut
  have hcut : Reads w B 1 (some (ad.add at_)) d.length (bys d) := by rw [hdl]; exact hcut
  have hdc : d.length ≤ c - at_ := by omega
  have hdb : d.length ≤ 1000000000 := by omega
  have hrv : ∀ w1, Below w.heap.size w w1 → Calls Try.prog 102 #[.slice (some (ad.add at_)) (b.length - at_) (c - at_)] w1 (fun e w' => e = .returned (.tuple #[.agg #[.int .i64 0, .int .i64 0, .float .f64 0, .string ⟨#[]⟩, .slice none 0 0], .int .i64 0, .int .i64 20]) ∧ Below w1.heap.size w1 w') := fun w1 hb1 => by
    have hx := wire_read_v ((hcut.below (hb1.mono (Nat.le_of_lt (Nat.lt_of_le_of_lt hB hrl)))).more (Nat.le_trans (Nat.le_of_lt (Nat.lt_of_le_of_lt hB hrl)) hb1.size)) (fun e => by cases e) hdc hdb
    rw [ho, hdl] at hx
    exact hx
  clear hd hdl hcut hdc hdb ho hr
  have hac2 : at_ ≤ c := by omega
  have hz := Blk.new w 110 #[.int .i64 0, .int .i64 0, .float .f64 0, .string ⟨#[]⟩, .slice none 0 0]
  have hw2 : (w.alloc (.cells #[.int .i64 0, .int .i64 0, .float .f64 0, .string ⟨#[]⟩, .slice none 0 0] 110)).heap.size = w.heap.size + 1 := by simp
  have hR2 : CAt (w.alloc (.cells #[.int .i64 0, .int .i64 0, .float .f64 0, .string ⟨#[]⟩, .slice none 0 0] 110)) r (some ad) b.length c at_ := Blk.alloc h (.cells #[.int .i64 0, .int .i64 0, .float .f64 0, .string ⟨#[]⟩, .slice none 0 0] 110)
  have hb2 := (Below.refl w.heap.size w).alloc (Nat.le_refl _) (.cells #[.int .i64 0, .int .i64 0, .float .f64 0, .string ⟨#[]⟩, .slice none 0 0] 110)
  clear h
  replace hrv := Lib.hid hrv
  go_enter Try.func89, Try.ntmps89
  go_wp2_with fail
  generalize w.alloc (.cells #[.int .i64 0, .int .i64 0, .float .f64 0, .string ⟨#[]⟩, .slice none 0 0] 110) = w2 at *
  go_upto_region 1 with (fail)
  go_cut [3, 4, 5] from 6 to 19 (fun p3 v4 v5 wx => v5 = .int .i64 20 ∧ Below w2.heap.size w2 wx)
  case first =>
    have hS : w2.drew.cell? ⟨r, 0, none⟩ = some (.slice (some ad) b.length c) ∧ w2.drew.cell? ⟨r, 1, none⟩ = some (.int .i64 (at_ : Int)) ∧ Below w2.heap.size w2 w2.drew := ⟨Blk.cell hR2 0, Blk.cell hR2 1, (Below.refl _ _).drew⟩
    refine wp_region_pair (fun W => W.cell? ⟨r, 0, none⟩ = some (.slice (some ad) b.length c) ∧ W.cell? ⟨r, 1, none⟩ = some (.int .i64 (at_ : Int)) ∧ Below w2.heap.size w2 W) [3, 7] [9, 14, 15] [0, 1, 2, 3, 4, 5, 6, 7, 8] 9 14 [10, 11, 12, 13, 14, 15, 16, 17] [9, 10, 11, 12, 13, 15, 16, 17] (by kernel_rfl) rfl rfl (by kernel_rfl) (by kernel_rfl) (by kernel_rfl) rfl rfl (by kernel_rfl) (by kernel_rfl) (fun _ _ d _ _ h => by cases d <;> exact h) ?_
    repeat (first | (refine lexG_take _ ?_ rfl rfl rfl rfl (fun _ => ?_) ?_; rotate_left; (focus (go_simp; with_reducible rfl)); try simp only [Act.put, List.setIfInBounds_toArray, List.set_cons_zero, List.set_cons_succ]) | (refine lexG_held _ ?_ rfl rfl rfl rfl (by assumption) (fun _ hSw => ?_) ?_; rotate_left; (focus ((try dsimp only at hSw); go_simp; with_reducible rfl)); try simp only [Act.put, List.setIfInBounds_toArray, List.set_cons_zero, List.set_cons_succ]) | (refine lexG_skip _ rfl rfl (by assumption) ?_; try simp only [Act.put, List.setIfInBounds_toArray, List.set_cons_zero, List.set_cons_succ]))
    refine lexG_nil ?_
    refine ⟨?_, ?_⟩
    · refine lexG_now _ rfl rfl rfl (fun K hK => ?_)
      go_wp2_with fail
      refine (hrv.out _ (hb2.trans (hS.2.2.mono (by omega)))).mono ?_
      rintro e w5 ⟨rfl, hb5⟩
      dsimp only
      have hb5' : Below w2.heap.size w2 w5 := below_then hb5 hS.2.2
      have hR5 : CAt w5 r (some ad) b.length c at_ := Blk.below hR2 hb5' (Blk.lt hR2)
      refine hK _ _ _ (fun _ h => h) ⟨Blk.cell hR5 0, Blk.cell hR5 1, hb5'⟩ ?_
      clear hK K hS hb5
      try simp only [Act.put, List.setIfInBounds_toArray, List.set_cons_zero, List.set_cons_succ]
      repeat (first | (refine lexG_take _ ?_ rfl rfl rfl rfl (fun _ => ?_) ?_; rotate_left; (focus (go_simp; with_reducible rfl)); try simp only [Act.put, List.setIfInBounds_toArray, List.set_cons_zero, List.set_cons_succ]) | (refine lexG_held _ ?_ rfl rfl rfl rfl (by assumption) (fun _ hSw => ?_) ?_; rotate_left; (focus ((try dsimp only at hSw); go_simp; with_reducible rfl)); try simp only [Act.put, List.setIfInBounds_toArray, List.set_cons_zero, List.set_cons_succ]) | (refine lexG_skip _ rfl rfl (by assumption) ?_; try simp only [Act.put, List.setIfInBounds_toArray, List.set_cons_zero, List.set_cons_succ]))
      refine lexG_now _ rfl rfl rfl (fun K hK => ?_)
      go_simp
      have hb6 := hb5'.alloc hb5'.size (.cells #[.int .i64 0, .int .i64 0, .float .f64 0, .string ⟨#[]⟩, .slice none 0 0] 110)
      have hR6 : CAt (w5.alloc (.cells #[.int .i64 0, .int .i64 0, .float .f64 0, .string ⟨#[]⟩, .slice none 0 0] 110)) r (some ad) b.length c at_ := Blk.alloc hR5 (.cells #[.int .i64 0, .int .i64 0, .float .f64 0, .string ⟨#[]⟩, .slice none 0 0] 110)
      have h3 := Blk.new w5 110 #[.int .i64 0, .int .i64 0, .float .f64 0, .string ⟨#[]⟩, .slice none 0 0]
      have hr5l := Blk.lt hR5
      refine hK _ _ _ (fun _ h => h) ⟨Blk.cell hR6 0, Blk.cell hR6 1, hb6⟩ ?_
      clear hK K
      try simp only [Act.put, List.setIfInBounds_toArray, List.set_cons_zero, List.set_cons_succ]
      repeat (first | (refine lexG_take _ ?_ rfl rfl rfl rfl (fun _ => ?_) ?_; rotate_left; (focus (go_simp; with_reducible rfl)); try simp only [Act.put, List.setIfInBounds_toArray, List.set_cons_zero, List.set_cons_succ]) | (refine lexG_held _ ?_ rfl rfl rfl rfl (by assumption) (fun _ hSw => ?_) ?_; rotate_left; (focus ((try dsimp only at hSw); go_simp; with_reducible rfl)); try simp only [Act.put, List.setIfInBounds_toArray, List.set_cons_zero, List.set_cons_succ]) | (refine lexG_skip _ rfl rfl (by assumption) ?_; try simp only [Act.put, List.setIfInBounds_toArray, List.set_cons_zero, List.set_cons_succ]))
      refine lexG_now _ rfl rfl rfl (fun K hK => ?_)
      refine wp_store_row 110 (Operand.tmp 3) (Operand.tmp 17) rfl w5.heap.size #[.int .i64 0, .int .i64 0, .float .f64 0, .string ⟨#[]⟩, .slice none 0 0] (by simp [go_sem]) (by simp [go_sem]) 110 _ h3 (by kernel_rfl) rfl (by simp [Value.oneCell']) ?_
      have hb7 := below_row hb6 (g := w5.heap.size) hb5'.size #[.int .i64 0, .int .i64 0, .float .f64 0, .string ⟨#[]⟩, .slice none 0 0]
      have hR7 : CAt ((w5.alloc (.cells #[.int .i64 0, .int .i64 0, .float .f64 0, .string ⟨#[]⟩, .slice none 0 0] 110)).setRow w5.heap.size #[.int .i64 0, .int .i64 0, .float .f64 0, .string ⟨#[]⟩, .slice none 0 0]) r (some ad) b.length c at_ := Blk.farRow hR6 (by omega) #[.int .i64 0, .int .i64 0, .float .f64 0, .string ⟨#[]⟩, .slice none 0 0]
      refine hK _ _ _ (fun _ h => h) ⟨Blk.cell hR7 0, Blk.cell hR7 1, hb7⟩ ?_
      clear hK K
      try simp only [Act.put, List.setIfInBounds_toArray, List.set_cons_zero, List.set_cons_succ]
      repeat (first | (refine lexG_take _ ?_ rfl rfl rfl rfl (fun _ => ?_) ?_; rotate_left; (focus (go_simp; with_reducible rfl)); try simp only [Act.put, List.setIfInBounds_toArray, List.set_cons_zero, List.set_cons_succ]) | (refine lexG_held _ ?_ rfl rfl rfl rfl (by assumption) (fun _ hSw => ?_) ?_; rotate_left; (focus ((try dsimp only at hSw); go_simp; with_reducible rfl)); try simp only [Act.put, List.setIfInBounds_toArray, List.set_cons_zero, List.set_cons_succ]) | (refine lexG_skip _ rfl rfl (by assumption) ?_; try simp only [Act.put, List.setIfInBounds_toArray, List.set_cons_zero, List.set_cons_succ]))
      refine lexG_nil ?_
      go_wp2_with fail
      go_meet
      exact ⟨rfl, hb7⟩
    · refine lexG_now _ rfl rfl rfl (fun K hK => ?_)
      go_simp
      have hb3 : Below w2.heap.size w2 (w2.alloc (.cells #[.int .i64 0, .int .i64 0, .float .f64 0, .string ⟨#[]⟩, .slice none 0 0] 110)).drew := below_drewN ((Below.refl w2.heap.size w2).alloc (Nat.le_refl _) (.cells #[.int .i64 0, .int .i64 0, .float .f64 0, .string ⟨#[]⟩, .slice none 0 0] 110)) 1
      have hR3 : CAt (w2.alloc (.cells #[.int .i64 0, .int .i64 0, .float .f64 0, .string ⟨#[]⟩, .slice none 0 0] 110)).drew r (some ad) b.length c at_ := Blk.drew (Blk.alloc hR2 (.cells #[.int .i64 0, .int .i64 0, .float .f64 0, .string ⟨#[]⟩, .slice none 0 0] 110))
      have h3 := (Blk.new w2 110 #[.int .i64 0, .int .i64 0, .float .f64 0, .string ⟨#[]⟩, .slice none 0 0]).drew
      refine hK _ _ _ (fun _ h => h) ⟨Blk.cell hR3 0, Blk.cell hR3 1, hb3⟩ ?_
      clear hK K hS
      generalize (w2.alloc (.cells #[.int .i64 0, .int .i64 0, .float .f64 0, .string ⟨#[]⟩, .slice none 0 0] 110)).drew = w3 at *
      try simp only [Act.put, List.setIfInBounds_toArray, List.set_cons_zero, List.set_cons_succ]
      repeat (first | (refine lexG_take _ ?_ rfl rfl rfl rfl (fun _ => ?_) ?_; rotate_left; (focus (go_simp; with_reducible rfl)); try simp only [Act.put, List.setIfInBounds_toArray, List.set_cons_zero, List.set_cons_succ]) | (refine lexG_held _ ?_ rfl rfl rfl rfl (by assumption) (fun _ hSw => ?_) ?_; rotate_left; (focus ((try dsimp only at hSw); go_simp; with_reducible rfl)); try simp only [Act.put, List.setIfInBounds_toArray, List.set_cons_zero, List.set_cons_succ]) | (refine lexG_skip _ rfl rfl (by assumption) ?_; try simp only [Act.put, List.setIfInBounds_toArray, List.set_cons_zero, List.set_cons_succ]))
      refine lexG_now _ rfl rfl rfl (fun K hK => ?_)
      go_wp2_with fail
      refine (hrv.out _ (hb2.trans (hb3.mono (by omega)))).mono ?_
      rintro e w5 ⟨rfl, hb5⟩
      dsimp only
      have hb5' : Below w2.heap.size w2 w5 := below_then hb5 hb3
      have hR5 : CAt w5 r (some ad) b.length c at_ := Blk.below hR3 hb5 (Blk.lt hR3)
      have h35 := h3.below hb5 h3.lt
      refine hK _ _ _ (fun _ h => h) ⟨Blk.cell hR5 0, Blk.cell hR5 1, hb5'⟩ ?_
      clear hK K hb5
      try simp only [Act.put, List.setIfInBounds_toArray, List.set_cons_zero, List.set_cons_succ]
      repeat (first | (refine lexG_take _ ?_ rfl rfl rfl rfl (fun _ => ?_) ?_; rotate_left; (focus (go_simp; with_reducible rfl)); try simp only [Act.put, List.setIfInBounds_toArray, List.set_cons_zero, List.set_cons_succ]) | (refine lexG_held _ ?_ rfl rfl rfl rfl (by assumption) (fun _ hSw => ?_) ?_; rotate_left; (focus ((try dsimp only at hSw); go_simp; with_reducible rfl)); try simp only [Act.put, List.setIfInBounds_toArray, List.set_cons_zero, List.set_cons_succ]) | (refine lexG_skip _ rfl rfl (by assumption) ?_; try simp only [Act.put, List.setIfInBounds_toArray, List.set_cons_zero, List.set_cons_succ]))
      refine lexG_now _ rfl rfl rfl (fun K hK => ?_)
      refine wp_store_row 110 (Operand.tmp 3) (Operand.tmp 17) rfl w2.heap.size #[.int .i64 0, .int .i64 0, .float .f64 0, .string ⟨#[]⟩, .slice none 0 0] (by simp [go_sem]) (by simp [go_sem]) 110 _ h35 (by kernel_rfl) rfl (by simp [Value.oneCell']) ?_
      have hr2l := Blk.lt hR2
      have hb7 := below_row hb5' (g := w2.heap.size) (Nat.le_refl _) #[.int .i64 0, .int .i64 0, .float .f64 0, .string ⟨#[]⟩, .slice none 0 0]
      have hR7 : CAt (w5.setRow w2.heap.size #[.int .i64 0, .int .i64 0, .float .f64 0, .string ⟨#[]⟩, .slice none 0 0]) r (some ad) b.length c at_ := Blk.farRow hR5 (by omega) #[.int .i64 0, .int .i64 0, .float .f64 0, .string ⟨#[]⟩, .slice none 0 0]
      refine hK _ _ _ (fun _ h => h) ⟨Blk.cell hR7 0, Blk.cell hR7 1, hb7⟩ ?_
      clear hK K
      try simp only [Act.put, List.setIfInBounds_toArray, List.set_cons_zero, List.set_cons_succ]
      repeat (first | (refine lexG_take _ ?_ rfl rfl rfl rfl (fun _ => ?_) ?_; rotate_left; (focus (go_simp; with_reducible rfl)); try simp only [Act.put, List.setIfInBounds_toArray, List.set_cons_zero, List.set_cons_succ]) | (refine lexG_held _ ?_ rfl rfl rfl rfl (by assumption) (fun _ hSw => ?_) ?_; rotate_left; (focus ((try dsimp only at hSw); go_simp; with_reducible rfl)); try simp only [Act.put, List.setIfInBounds_toArray, List.set_cons_zero, List.set_cons_succ]) | (refine lexG_skip _ rfl rfl (by assumption) ?_; try simp only [Act.put, List.setIfInBounds_toArray, List.set_cons_zero, List.set_cons_succ]))
      refine lexG_nil ?_
      go_wp2_with fail
      go_meet
      exact ⟨rfl, hb7⟩
  case rest =>
    obtain ⟨rfl, hbc⟩ := hcut
    go_wp2_with fail
    refine (cmust_no _).mono ?_
    rintro e w8 ⟨rfl, rfl⟩
    dsimp only
    have hfin := hb2.trans (hbc.mono hb2.size)
    go_wp2_with fail
    exact ⟨rfl, rfl, hfin⟩

theorem cvalue_no {A : Option Addr} {c B r at_ : Nat} {b : List UInt8} {w : World} (h : CAt w r A b.length c at_) (hr : Reads w B 1 A b.length (bys b)) (hA : A = none → c = 0) (hB : B ≤ r) (hc : b.length ≤ c) (hl : b.length ≤ 1000000000) (hat : at_ ≤ b.length) (ho : rdV (b.drop at_) = none) :
    Calls Try.prog 89 #[.pointer (some ⟨r, 0, none⟩)] w (fun e w' => e = .panicked shortC ∧ Below w.heap.size w w') := by
  cases A with
  | none =>
    have hc0 := hA rfl
    subst hc0
    have hb : b = [] := List.eq_nil_of_length_eq_zero (by omega)
    subst hb
    have ha0 : at_ = 0 := by have h2 : at_ ≤ 0 := hat; omega
    subst ha0
    exact cvalue_no_nil h
  | some ad =>
    by_cases hac : at_ < c
    · exact cvalue_no_mid h hr hB hc hl hat hac ho
    · have e : c = at_ := by omega
      subst e
      exact cvalue_no_end h hat hc
end Go.Proofs.Ytjljlgkghlphnaa
namespace Go.Proofs.Ytjljlgkghlphnaa
open Go.RowKit
set_option maxRecDepth 100000

theorem wrap_r32 (n : Nat) (h : n < 4294967296) : IntKind.u32.wrap (n : Int) = (n : Int) := by
  simp [IntKind.wrap, IntKind.bits, IntKind.signed]
  omega
theorem wrap_r16 (n : Nat) (h : n < 65536) : IntKind.u16.wrap (n : Int) = (n : Int) := by
  simp [IntKind.wrap, IntKind.bits, IntKind.signed]
  omega
theorem readU_4 (l : List UInt8) : readU (l.take 4) < 4294967296 := by
  refine Nat.lt_of_lt_of_le (readU_lt _) ?_
  rw [List.length_take]
  exact Nat.pow_le_pow_right (show 0 < 256 by decide) (show min 4 l.length ≤ 4 by omega)
theorem readU_2 (l : List UInt8) : readU (l.take 2) < 65536 := by
  refine Nat.lt_of_lt_of_le (readU_lt _) ?_
  rw [List.length_take]
  exact Nat.pow_le_pow_right (show 0 < 256 by decide) (show min 2 l.length ≤ 2 by omega)

set_option maxHeartbeats 1600000 in
theorem cid_ok {ad : Addr} {c B r : Nat} {b : List UInt8} {w : World} (h : CAt w r (some ad) b.length c 0) (hr : Reads w B 1 (some ad) b.length (bys b)) (hB : B ≤ r) (hc : b.length ≤ c) (hl : b.length ≤ 1000000000) (hat : 10 ≤ b.length)
    (c1 s1 n1 : Nat) (hc1 : readU (b.take 4) = c1) (hs1 : readU ((b.drop 4).take 4) = s1) (hn1 : readU ((b.drop 8).take 2) = n1) :
    Calls Try.prog 85 #[.pointer (some ⟨r, 0, none⟩)] w (fun e w' => e = .returned (.agg #[.int .u32 (c1 : Int), .int .u32 (s1 : Int), .int .u16 (n1 : Int)]) ∧ CAt w' r (some ad) b.length c 10 ∧ Upd (fun x => x = r) w w') := by
  have hw1 := wrap_r32 c1 (by rw [← hc1]; exact readU_4 _)
  have hw2 := wrap_r32 s1 (by rw [← hs1]; exact readU_4 _)
  have hw3 := wrap_r16 n1 (by rw [← hn1]; exact readU_2 _)
  have hrl : r < w.heap.size := Blk.lt h
  have hz := Blk.new w 27 #[.int .u32 0, .int .u32 0, .int .u16 0]
  have hb2 := (Below.refl w.heap.size w).alloc (Nat.le_refl _) (.cells #[.int .u32 0, .int .u32 0, .int .u16 0] 27)
  have hR2 : CAt (w.alloc (.cells #[.int .u32 0, .int .u32 0, .int .u16 0] 27)) r (some ad) b.length c 0 := Blk.alloc h (.cells #[.int .u32 0, .int .u32 0, .int .u16 0] 27)
  have hwz : w.heap.size < (w.alloc (.cells #[.int .u32 0, .int .u32 0, .int .u16 0] 27)).heap.size := by simp
  have hrx := fun (w1 : World) (hu : Upd (fun x => x = r) w w1) => hr.upd hu (fun k hk e => by omega) (by omega)
  obtain ⟨bl, hbl⟩ : ∃ bl, b.length = bl := ⟨_, rfl⟩
  have hn1' := fun w1 (h1 : CAt w1 r (some ad) b.length c 0) (hu : Upd (fun x => x = r) w w1) => cnumber_ok (k := 4) (at_ := 0) h1 (hrx w1 hu) hB hc hl (by omega) (by omega) (by omega) c1 (by rw [List.drop_zero]; exact hc1)
  have hn2' := fun w1 (h1 : CAt w1 r (some ad) b.length c 4) (hu : Upd (fun x => x = r) w w1) => cnumber_ok (k := 4) (at_ := 4) h1 (hrx w1 hu) hB hc hl (by omega) (by omega) (by omega) s1 hs1
  have hn3' := fun w1 (h1 : CAt w1 r (some ad) b.length c 8) (hu : Upd (fun x => x = r) w w1) => cnumber_ok (k := 2) (at_ := 8) h1 (hrx w1 hu) hB hc hl (by omega) (by omega) (by omega) n1 hn1
  rw [hbl] at hn1' hn2' hn3' hR2 ⊢
  replace hn1' := Lib.hid hn1'
  replace hn2' := Lib.hid hn2'
  replace hn3' := Lib.hid hn3'
  obtain ⟨z, hzz⟩ : ∃ z, w.heap.size = z := ⟨_, rfl⟩
  clear h hr hc hl hat hc1 hs1 hn1 hrx hbl
  go_enter Try.func85, Try.ntmps85
  go_wp2_with fail
  generalize w.alloc (.cells #[.int .u32 0, .int .u32 0, .int .u16 0] 27) = w2 at *
  have hu2 := Upd.of_below_size (S := fun x => x = r) hb2
  rw [hzz] at hz hwz hrl
  replace hzz := Lib.hid hzz
  refine (hn1'.out w2 hR2 hu2).mono ?_
  rintro e w3 ⟨rfl, hR3, hu3⟩
  dsimp only
  have hz3 := hz.upd hu3 (fun e => by omega)
  have hu3' := hu2.trans hu3 (fun _ _ h => h)
  clear hR2 hu2 hu3 hz hn1'
  go_wp2_with fail
  refine (hn2'.out w3 hR3 hu3').mono ?_
  rintro e w4 ⟨rfl, hR4, hu4⟩
  dsimp only
  have hz4 := hz3.upd hu4 (fun e => by omega)
  have hu4' := hu3'.trans hu4 (fun _ _ h => h)
  clear hR3 hu3' hu4 hz3 hn2'
  go_wp2_with fail
  refine (hn3'.out w4 hR4 hu4').mono ?_
  rintro e w5 ⟨rfl, hR5, hu5⟩
  dsimp only
  have hz5 := hz4.upd hu5 (fun e => by omega)
  have hu5' := hu4'.trans hu5 (fun _ _ h => h)
  clear hR4 hu4' hu5 hz4 hn3'
  have hzr := hz5.row #[.int .u32 (c1 : Int), .int .u32 (s1 : Int), .int .u16 (n1 : Int)]
  have hRr : CAt (w5.setRow z #[.int .u32 (c1 : Int), .int .u32 (s1 : Int), .int .u16 (n1 : Int)]) r (some ad) bl c 10 := Blk.farRow hR5 (by omega) #[.int .u32 (c1 : Int), .int .u32 (s1 : Int), .int .u16 (n1 : Int)]
  have hur := hu5'.setRow (g := z) (fun h => by have := hzz.out; omega) #[.int .u32 (c1 : Int), .int .u32 (s1 : Int), .int .u16 (n1 : Int)]
  clear hR5 hu5'
  go_wp2_with (refine store_row_gen rfl 27 (Operand.tmp 2) _ rfl z #[.int .u32 (c1 : Int), .int .u32 (s1 : Int), .int .u16 (n1 : Int)] (by simp [go_sem]) (by simp [go_sem]) 27 _ hz5 (by kernel_rfl) rfl (by simp [Value.oneCell']) (fun w9 hw9 => ?_); rw [← hw9] at hzr hRr hur; clear hw9)
  refine bodyPost_ret (v := .agg #[.int .u32 (c1 : Int), .int .u32 (s1 : Int), .int .u16 (n1 : Int)]) ?hr rfl ?_
  case hr => exact results_cell_row rfl _ _ z 27 _ (0, 0) _ rfl hzr Try.underlying27 rfl (by kernel_rfl)
  exact ⟨rfl, hRr, hur⟩

set_option maxHeartbeats 1600000 in
theorem cid_no {A : Option Addr} {c B r : Nat} {b : List UInt8} {w : World} (h : CAt w r A b.length c 0) (hr : Reads w B 1 A b.length (bys b)) (hA : A = none → c = 0) (hB : B ≤ r) (hc : b.length ≤ c) (hl : b.length ≤ 1000000000) (hat : b.length < 10) :
    Calls Try.prog 85 #[.pointer (some ⟨r, 0, none⟩)] w (fun e w' => e = .panicked shortC ∧ Upd (fun x => x = r) w w') := by
  have hrl : r < w.heap.size := Blk.lt h
  have hb2 := (Below.refl w.heap.size w).alloc (Nat.le_refl _) (.cells #[.int .u32 0, .int .u32 0, .int .u16 0] 27)
  have hR2 : CAt (w.alloc (.cells #[.int .u32 0, .int .u32 0, .int .u16 0] 27)) r A b.length c 0 := Blk.alloc h (.cells #[.int .u32 0, .int .u32 0, .int .u16 0] 27)
  have hwz : w.heap.size < (w.alloc (.cells #[.int .u32 0, .int .u32 0, .int .u16 0] 27)).heap.size := by simp
  by_cases h4 : b.length < 4
  · have hno := fun w1 (h1 : CAt w1 r A b.length c 0) => cnumber_no (k := 4) h1 hA hc hl (by omega) (by omega) (by omega)
    obtain ⟨bl, hbl⟩ : ∃ bl, b.length = bl := ⟨_, rfl⟩
    rw [hbl] at hno hR2
    replace hno := Lib.hid hno
    clear h hr hc hl hat hbl h4 hA
    go_enter Try.func85, Try.ntmps85
    go_wp2_with fail
    generalize w.alloc (.cells #[.int .u32 0, .int .u32 0, .int .u16 0] 27) = w2 at *
    refine (hno.out w2 hR2).mono ?_
    rintro e w3 ⟨rfl, hb3⟩
    dsimp only
    have hu := Upd.of_below_size (S := fun x => x = r) (below_then hb3 hb2)
    go_wp2_with fail
    exact ⟨rfl, rfl, hu⟩
  obtain ⟨ad, rfl⟩ : ∃ ad, A = some ad := by
    cases A with
    | none => have := hA rfl; omega
    | some ad => exact ⟨ad, rfl⟩
  have hrx := fun (w1 : World) (hu : Upd (fun x => x = r) w w1) => hr.upd hu (fun k hk e => by omega) (by omega)
  have hn1' := fun w1 (h1 : CAt w1 r (some ad) b.length c 0) (hu : Upd (fun x => x = r) w w1) => cnumber_ok (k := 4) (at_ := 0) h1 (hrx w1 hu) hB hc hl (by omega) (by omega) (by omega) _ rfl
  obtain ⟨c1, hc1⟩ : ∃ c1, readU ((b.drop 0).take 4) = c1 := ⟨_, rfl⟩
  have hw1 := wrap_r32 c1 (by rw [← hc1]; exact readU_4 _)
  rw [hc1] at hn1'
  by_cases h8 : b.length < 8
  · have hno := fun w1 (h1 : CAt w1 r (some ad) b.length c 4) => cnumber_no (k := 4) h1 hA hc hl (by omega) (by omega) (by omega)
    obtain ⟨bl, hbl⟩ : ∃ bl, b.length = bl := ⟨_, rfl⟩
    rw [hbl] at hno hR2 hn1'
    replace hno := Lib.hid hno
    replace hn1' := Lib.hid hn1'
    clear h hr hc hl hat hbl h4 hA hrx h8 hc1
    go_enter Try.func85, Try.ntmps85
    go_wp2_with fail
    generalize w.alloc (.cells #[.int .u32 0, .int .u32 0, .int .u16 0] 27) = w2 at *
    have hu2 := Upd.of_below_size (S := fun x => x = r) hb2
    refine (hn1'.out w2 hR2 hu2).mono ?_
    rintro e w3 ⟨rfl, hR3, hu3⟩
    dsimp only
    have hu3' := hu2.trans hu3 (fun _ _ h => h)
    go_wp2_with fail
    refine (hno.out w3 hR3).mono ?_
    rintro e w4 ⟨rfl, hb4⟩
    dsimp only
    have hu := hu3'.trans (Upd.of_below_size (S := fun x => x = r) hb4) (fun _ _ h => h)
    go_wp2_with fail
    exact ⟨rfl, rfl, hu⟩
  have hn2' := fun w1 (h1 : CAt w1 r (some ad) b.length c 4) (hu : Upd (fun x => x = r) w w1) => cnumber_ok (k := 4) (at_ := 4) h1 (hrx w1 hu) hB hc hl (by omega) (by omega) (by omega) _ rfl
  obtain ⟨s1, hs1⟩ : ∃ s1, readU ((b.drop 4).take 4) = s1 := ⟨_, rfl⟩
  have hw2 := wrap_r32 s1 (by rw [← hs1]; exact readU_4 _)
  rw [hs1] at hn2'
  have hno := fun w1 (h1 : CAt w1 r (some ad) b.length c 8) => cnumber_no (k := 2) h1 hA hc hl (by omega) (by omega) (by omega)
  obtain ⟨bl, hbl⟩ : ∃ bl, b.length = bl := ⟨_, rfl⟩
  rw [hbl] at hno hR2 hn1' hn2'
  replace hno := Lib.hid hno
  replace hn1' := Lib.hid hn1'
  replace hn2' := Lib.hid hn2'
  clear h hr hc hl hat hbl h4 hA hrx h8 hc1 hs1
  go_enter Try.func85, Try.ntmps85
  go_wp2_with fail
  generalize w.alloc (.cells #[.int .u32 0, .int .u32 0, .int .u16 0] 27) = w2 at *
  have hu2 := Upd.of_below_size (S := fun x => x = r) hb2
  refine (hn1'.out w2 hR2 hu2).mono ?_
  rintro e w3 ⟨rfl, hR3, hu3⟩
  dsimp only
  have hu3' := hu2.trans hu3 (fun _ _ h => h)
  go_wp2_with fail
  refine (hn2'.out w3 hR3 hu3').mono ?_
  rintro e w4 ⟨rfl, hR4, hu4⟩
  dsimp only
  have hu4' := hu3'.trans hu4 (fun _ _ h => h)
  go_wp2_with fail
  refine (hno.out w4 hR4).mono ?_
  rintro e w5 ⟨rfl, hb5⟩
  dsimp only
  have hu := hu4'.trans (Upd.of_below_size (S := fun x => x = r) hb5) (fun _ _ h => h)
  go_wp2_with fail
  exact ⟨rfl, rfl, hu⟩
end Go.Proofs.Ytjljlgkghlphnaa
namespace Go.Proofs.Ytjljlgkghlphnaa

inductive Plan where
  | nil
  | one (i : Nat) (p : Plan)
  | two (i : Nat) (p : Plan) (j : Nat) (q : Plan)
def Plan.len : Plan → Nat
  | .nil => 0
  | .one _ p => p.len + 1
  | .two _ p _ _ => p.len + 1
def Plan.even : Plan → Bool
  | .nil => true
  | .one _ p => p.even
  | .two _ p _ q => p.even && q.even && p.len == q.len

section
variable {P : Program} {ops : Array Oper} {Q : Exit → Act → World → Prop} {md : Region.Mode} {H N : List Nat}

def planOk (md : Region.Mode) (ops : Array Oper) (N : List Nat) : Plan → Array Bool → Bool
  | .nil, listed => (Region.ready md ops listed).isEmpty
  | .one i p, listed => readyAt md ops listed i && (if N.contains i then Region.ready md ops listed == [i] else Region.free md ops listed i) && planOk md ops N p (listed.setIfInBounds i true)
  | .two i p j q, listed => N.contains i && N.contains j && Region.ready md ops listed == [i, j] && planOk md ops N p (listed.setIfInBounds i true) && planOk md ops N q (listed.setIfInBounds j true)

def planG (P : Program) (md : Region.Mode) (ops : Array Oper) (Q : Exit → Act → World → Prop) (H N : List Nat) : Plan → (World → Prop) → Act → World → Prop
  | .nil, _, a, w => Q .normal a w
  | .one i p, S, a, w =>
    if N.contains i then wpOp P ops Q i (fun a' w' => ∃ S' : World → Prop, (∀ x, S' x → S x) ∧ (needS md ops H i = true → S' w') ∧ planG P md ops Q H N p S' a' w') a w
    else ∃ o v, ops[i]? = some o ∧ YieldsIf P ops (fun w' => H.contains i = true → S w') o v a ∧ (H.contains i = true → S w) ∧ planG P md ops Q H N p S (a.put o.dst v) w
  | .two i p j q, S, a, w =>
    wpOp P ops Q i (fun a' w' => ∃ S' : World → Prop, (∀ x, S' x → S x) ∧ (needS md ops H i = true → S' w') ∧ planG P md ops Q H N p S' a' w') a w ∧
    wpOp P ops Q j (fun a' w' => ∃ S' : World → Prop, (∀ x, S' x → S x) ∧ (needS md ops H j = true → S' w') ∧ planG P md ops Q H N q S' a' w') a w

theorem plan_sound (hsel : ∀ (j : Nat) (o : Oper) cs b, ops[j]? = some o → o.op ≠ .select cs b) (hQ : ∀ c a d v w, Q (.panic c) (a.put d v) w → Q (.panic c) a w) :
    ∀ (p : Plan) (S : World → Prop) (listed : Array Bool) (a : Act) (w : World), p.even = true → planOk md ops N p listed = true → planG P md ops Q H N p S a w → wpAnyG P md ops Q H N p.len S listed a w
  | .nil, _, listed, a, w, _, hok, h => ⟨by simpa [planOk] using hok, h⟩
  | .one i p, S, listed, a, w, hev, hok, h => by
    simp only [planOk, Bool.and_eq_true] at hok
    obtain ⟨⟨hr, hk⟩, hrest⟩ := hok
    have hri : i ∈ Region.ready md ops listed := ready_of_at hr
    unfold planG at h
    cases hN : N.contains i with
    | true =>
      rw [hN] at h hk
      simp only [if_true, beq_iff_eq] at h hk
      refine ⟨fun h0 => (by rw [h0] at hk; cases hk), fun j hj => ?_⟩
      rw [hk] at hj
      obtain rfl : j = i := by simpa using hj
      exact wpOp_mono (fun a' w' ⟨S', hsub, hask, hl⟩ => ⟨S', hsub, by unfold askS; rw [hN]; exact hask, plan_sound hsel hQ p S' _ a' w' hev hrest hl⟩) h
    | false =>
      rw [hN] at h hk
      simp only [Bool.false_eq_true, if_false] at h hk
      obtain ⟨o, v, ho, hy, hS, hl⟩ := h
      exact wpAnyG_first ho hN hsel (fun c a w => hQ c a o.dst v w) _ S listed a w (Region.free_spec ho hk) hri hy hS (plan_sound hsel hQ p S _ _ w hev hrest hl)
  | .two i p j q, S, listed, a, w, hev, hok, h => by
    simp only [planOk, Bool.and_eq_true, beq_iff_eq] at hok
    obtain ⟨⟨⟨⟨hi, hj⟩, hr⟩, ok1⟩, ok2⟩ := hok
    simp only [Plan.even, Bool.and_eq_true, beq_iff_eq] at hev
    obtain ⟨⟨ev1, ev2⟩, hlen⟩ := hev
    unfold planG at h
    refine ⟨fun h0 => (by rw [h0] at hr; cases hr), fun k hk => ?_⟩
    rw [hr] at hk
    simp only [List.mem_cons, List.not_mem_nil, or_false] at hk
    rcases hk with rfl | rfl
    · exact wpOp_mono (fun a' w' ⟨S', hsub, hask, hl⟩ => ⟨S', hsub, by unfold askS; rw [hi]; exact hask, plan_sound hsel hQ p S' _ a' w' ev1 ok1 hl⟩) h.1
    · refine wpOp_mono (fun a' w' ⟨S', hsub, hask, hl⟩ => ⟨S', hsub, by unfold askS; rw [hj]; exact hask, ?_⟩) h.2
      have := plan_sound hsel hQ q S' _ a' w' ev2 ok2 hl
      rw [← hlen] at this
      exact this

theorem wp_region_plan {id : Nat} {a : Act} {w : World} {l : List Oper} (S : World → Prop) (H N : List Nat) (p : Plan) (hm : P.follows .mixedOrders = true) (hlen : p.len = l.toArray.size) (hev : p.even = true)
    (hs : Region.noSelect l.toArray = true) (hok : planOk .any l.toArray N p (Array.replicate l.toArray.size false) = true) (hQ : ∀ c a d v w, Q (.panic c) (a.put d v) w → Q (.panic c) a w)
    (h : planG P .any l.toArray Q H N p S a w.drew) : (Code.region id l.toArray true).wp P Q a w :=
  wp_region_any hm (wpAny_of_G _ S _ _ _ (hlen ▸ plan_sound (Region.noSelect_spec hs) hQ p S _ a w.drew hev hok h))

/-! ### The steps -/
section
variable {i : Nat} {rest : Plan} {a : Act} {w : World} {l : List Oper} {S : World → Prop}
theorem planG_nil (h : Q .normal a w) : planG P md l.toArray Q H N .nil S a w := h

/-- An operation that yields v in whatever world: 'rfl' finds the operation, that it is none of 'now', that it is wanted. -/
theorem planG_take (o : Oper) (v : Value) (hN : N.contains i = false) (ho : l[i]? = some o) (hw : Region.wanted o (yielded l.toArray a.tmps) = true)
    (hH : H.contains i = false) (hy : ∀ w', (execOp a.eval o).run P w' = .ok (.value v) w') (h : planG P md l.toArray Q H N rest S (a.put o.dst v) w) : planG P md l.toArray Q H N (.one i rest) S a w := by
  unfold planG
  rw [hN]
  exact ⟨o, v, by simpa using ho, .inl ⟨hw, fun w' _ => hy w'⟩, fun hc => (by rw [hH] at hc; cases hc), h⟩

/-- In every world that meets S. -/
theorem planG_held (o : Oper) (v : Value) (hN : N.contains i = false) (ho : l[i]? = some o) (hw : Region.wanted o (yielded l.toArray a.tmps) = true)
    (hHi : H.contains i = true) (hS : S w) (hy : ∀ w', S w' → (execOp a.eval o).run P w' = .ok (.value v) w') (h : planG P md l.toArray Q H N rest S (a.put o.dst v) w) : planG P md l.toArray Q H N (.one i rest) S a w := by
  unfold planG
  rw [hN]
  exact ⟨o, v, by simpa using ho, .inl ⟨hw, fun w' hs => hy w' (hs hHi)⟩, fun _ => hS, h⟩

/-- An operation that its guard passes over. -/
theorem planG_skip (o : Oper) (ho : l[i]? = some o) (hw : Region.wanted o (yielded l.toArray a.tmps) = false)
    (hS : S w) (h : planG P md l.toArray Q H N rest S (a.put o.dst undef) w) : planG P md l.toArray Q H N (.one i rest) S a w := by
  unfold planG
  split
  · unfold wpOp
    rw [show l.toArray[i]? = some o from by simpa using ho]
    simp only [hw, Bool.false_eq_true, if_false]
    exact ⟨S, fun _ h => h, fun _ => hS, h⟩
  · exact ⟨o, undef, by simpa using ho, .inr ⟨hw, rfl⟩, fun _ => hS, h⟩

/-- One that is carried out when nothing else may come; S may be made narrower. -/
theorem planG_now (o : Oper) (hN : N.contains i = true) (ho : l[i]? = some o) (hw : Region.wanted o (yielded l.toArray a.tmps) = true)
    (h : ∀ K : Act → World → Prop, (∀ a' w' (S' : World → Prop), (∀ x, S' x → S x) → S' w' → planG P md l.toArray Q H N rest S' a' w' → K a' w') → o.wp P a w K Q) : planG P md l.toArray Q H N (.one i rest) S a w := by
  unfold planG
  rw [hN]
  unfold wpOp
  rw [show l.toArray[i]? = some o from by simpa using ho]
  simp only [hw, if_true]
  exact .inl (h _ fun a' w' S' h1 h2 h3 => ⟨S', h1, fun _ => h2, h3⟩)

/-- One behind which nothing leans on S, or that nothing leans on S can surely follow. -/
theorem planG_nowF (o : Oper) (hN : N.contains i = true) (ho : l[i]? = some o) (hw : Region.wanted o (yielded l.toArray a.tmps) = true) (hn : needS md l.toArray H i = false)
    (h : ∀ K : Act → World → Prop, (∀ a' w', planG P md l.toArray Q H N rest S a' w' → K a' w') → o.wp P a w K Q) : planG P md l.toArray Q H N (.one i rest) S a w := by
  unfold planG
  rw [hN]
  unfold wpOp
  rw [show l.toArray[i]? = some o from by simpa using ho]
  simp only [hw, if_true]
  exact .inl (h _ fun a' w' h3 => ⟨S, fun _ h => h, fun hc => (by rw [hn] at hc; cases hc), h3⟩)

theorem planG_two {p q : Plan} {j : Nat} (hi : N.contains i = true) (hj : N.contains j = true) (h1 : planG P md l.toArray Q H N (.one i p) S a w) (h2 : planG P md l.toArray Q H N (.one j q) S a w) : planG P md l.toArray Q H N (.two i p j q) S a w := by
  unfold planG at h1 h2 ⊢
  rw [hi] at h1
  rw [hj] at h2
  simp only [if_true] at h1 h2
  exact ⟨h1, h2⟩
end
end
end Go.Proofs.Ytjljlgkghlphnaa
namespace Go.Proofs.Ytjljlgkghlphnaa
open Go.RowKit
set_option maxRecDepth 100000

/-- The last of an owned row's items, written. -/
theorem own_last {w : World} {t : TypeId} {size g n c : Nat} {xs zs news : List Value} (h : Own w t size (some ⟨g, 0, none⟩) (n + 1) c (xs ++ zs)) (hx : xs.length = n * size) (hz : zs.length = size) (hn : news.length = size) :
    Own (w.setCells g (n * size) news) t size (some ⟨g, 0, none⟩) (n + 1) c (xs ++ news) ∧ w.there g (n * size) size := by
  have hl : (xs ++ news).length = (n + 1) * size := by rw [List.length_append, hx, hn, Nat.add_mul, Nat.one_mul]
  rcases h.2 with ⟨h', _⟩ | ⟨g', cur, he, hg, hnc, hcm, hcs, htake⟩
  · cases h'
  · have hgg : g' = g := by injection he with he; injection he with he; exact he.symm
    subst hgg
    have h1 : (n + 1) * size ≤ cur.size := Nat.le_trans (Nat.mul_le_mul_right _ hnc) hcs
    have h2 : (n + 1) * size = n * size + size := by rw [Nat.add_mul, Nat.one_mul]
    obtain ⟨cur', q1, q2, q3⟩ := setCells_eq_setRow g' (n * size) t news cur w hg (by omega)
    refine ⟨⟨hl, .inr ⟨g', cur', rfl, q1, hnc, hcm, by omega, ?_⟩⟩, fun j hj => ⟨?_, Blk.frozen hg _⟩⟩
    · rw [q3]
      have ht : cur.toList.take (n * size) = xs := by
        have := congrArg (List.take (n * size)) htake
        rw [List.take_take, Nat.min_eq_left (by omega), List.take_left' hx] at this
        exact this
      rw [ht, List.take_append_of_le_length (by rw [List.length_append]; omega)]
      exact List.take_of_length_le (by rw [List.length_append]; omega)
    · rw [Blk.cell hg, Array.getElem?_eq_getElem (by omega)]; rfl

theorem VRow.push2 {w w9 : World} {b c c9 : Nat} {l : List Val} {A A9 : Option Addr} {xs : List Value} {css : Nat → Array Value} {v : Val} {cs : Array Value} {T : Nat → Prop} (R : VRow w b l A c xs css)
    (ho9 : Own w9 110 5 A9 (l.length + 1) c9 (xs ++ cs.toList)) (hA9 : ∀ g, bOf A9 = some g → b ≤ g) (hu : Upd (fun x => T x ∨ some x = bOf A) w w9) (hT : ∀ g, T g → g < b)
    (hf : bOf A9 = bOf A ∨ ∀ g, bOf A9 = some g → w.heap.size ≤ g) (hv : VOwn w9 (fun g => b ≤ g ∧ some g ≠ bOf A9) v cs) :
    VRow w9 b (l ++ [v]) A9 c9 (xs ++ cs.toList) (fun k => if k = l.length then cs else css k) := by
  have hxl : xs.length = l.length * 5 := R.ho.1
  have hfresh : ∀ g, g < w.heap.size → some g ≠ bOf A → some g ≠ bOf A9 := by
    intro g hg hne
    rcases hf with e | e
    · rw [e]; exact hne
    · intro e2
      have := e g e2.symm
      omega
  refine ⟨by simpa using ho9, hA9, ?_, ?_⟩
  · intro k u hku
    by_cases hk : k < l.length
    · rw [List.getElem?_append_left hk] at hku
      show VOwn _ _ u (if k = l.length then _ else css k)
      rw [if_neg (by omega)]
      refine ((((R.hx k u hku).mono (Q := fun g => (b ≤ g ∧ some g ≠ bOf A) ∧ g < w.heap.size) (fun g h1 h2 => ⟨h2, h1⟩))).upd hu (fun g hg e => ?_)).mono (fun g _ hg => ⟨hg.1.1, hfresh g hg.2 hg.1.2⟩)
      rcases e with e | e
      · have := hT g e; omega
      · exact hg.1.2 e
    · rw [List.getElem?_append_right (by omega)] at hku
      have hk0 : k = l.length := by
        have := (List.getElem?_eq_some_iff.1 hku).1
        simp at this; omega
      subst hk0
      simp at hku
      subst hku
      show VOwn _ _ v (if l.length = l.length then _ else _)
      rw [if_pos rfl]
      exact hv
  · intro k hk
    show _ = (if k = l.length then _ else css k).toList
    by_cases hk2 : k < l.length
    · rw [if_neg (by omega), ← R.hxs k hk2, List.drop_append_of_le_length (by omega), List.take_append_of_le_length (by rw [List.length_drop, hxl]; omega)]
    · have hk0 : k = l.length := by simp at hk; omega
      subst hk0
      rw [if_pos rfl, ← hxl, List.drop_left]
      have := hv.size
      rw [List.take_of_length_le (by simp [this])]

/-- What the reading of a call comes to. -/
def rdOp (b : List UInt8) : Option (OpD × Nat) :=
  if b.length < 10 then none
  else if (readT (b.drop 10) 32).2.2 ≠ 0 then none
  else if (readT (b.drop (10 + (readT (b.drop 10) 32).2.1)) 32).2.2 ≠ 0 then none
  else if b.length < 10 + (readT (b.drop 10) 32).2.1 + (readT (b.drop (10 + (readT (b.drop 10) 32).2.1)) 32).2.1 + 1 then none
  else if 16 < readU ((b.drop (10 + (readT (b.drop 10) 32).2.1 + (readT (b.drop (10 + (readT (b.drop 10) 32).2.1)) 32).2.1)).take 1) then none
  else match pl rdV (readU ((b.drop (10 + (readT (b.drop 10) 32).2.1 + (readT (b.drop (10 + (readT (b.drop 10) 32).2.1)) 32).2.1)).take 1)) (b.drop (10 + (readT (b.drop 10) 32).2.1 + (readT (b.drop (10 + (readT (b.drop 10) 32).2.1)) 32).2.1 + 1)) with
    | none => none
    | some (l, q) => some (⟨readU (b.take 4), readU ((b.drop 4).take 4), readU ((b.drop 8).take 2), (readT (b.drop 10) 32).1, (readT (b.drop (10 + (readT (b.drop 10) 32).2.1)) 32).1, l⟩, 10 + (readT (b.drop 10) 32).2.1 + (readT (b.drop (10 + (readT (b.drop 10) 32).2.1)) 32).2.1 + 1 + q)

theorem rdV_le {b : List UInt8} {v : Val} {m : Nat} (h : rdV b = some (v, m)) : m ≤ b.length := by
  unfold rdV at h
  cases hp : pv 8 b with
  | none => rw [hp] at h; cases h
  | some y =>
    obtain ⟨v', m'⟩ := y
    rw [hp] at h
    dsimp only at h
    split at h
    · cases h; exact pv_le 8 b v m hp
    · cases h
/-- What a call comes to, some of its args read. -/
def fin (c s n : Nat) (g m : List UInt8) (vs : List Val) (at_ : Nat) : Option (List Val × Nat) → Option (OpD × Nat)
  | none => none
  | some (l, q) => some (⟨c, s, n, g, m, vs ++ l⟩, at_ + q)
theorem fin_step (c s n : Nat) (g m : List UInt8) (vs : List Val) (at_ k : Nat) (b : List UInt8) (v : Val) (q : Nat) (hk : 0 < k) (h : rdV (b.drop at_) = some (v, q)) :
    fin c s n g m vs at_ (pl rdV k (b.drop at_)) = fin c s n g m (vs ++ [v]) (at_ + q) (pl rdV (k - 1) (b.drop (at_ + q))) := by
  rw [pl_some hk h, List.drop_drop]
  cases pl rdV (k - 1) (b.drop (at_ + q)) with
  | none => rfl
  | some x =>
    obtain ⟨l, q2⟩ := x
    show some _ = some _
    rw [List.append_assoc, Nat.add_assoc]
    rfl
theorem lit_reads {w : World} {g : Nat} (h : Blk w g 110 #[.int .i64 0, .int .i64 0, .float .f64 0, .string ⟨#[]⟩, .slice none 0 0]) : Reads w w.heap.size 5 (some ⟨g, 0, none⟩) 1 [.int .i64 0, .int .i64 0, .float .f64 0, .string ⟨#[]⟩, .slice none 0 0] :=
  ⟨rfl, fun _ => ⟨⟨g, 0, none⟩, rfl, h.lt, fun j u hj => by rw [add_row]; exact (h.cell j).trans (by simpa using hj)⟩⟩

structure ArgRel (w wr : World) (r pb ob : Nat) (ad : Addr) (b : List UInt8) (bl c c1 s1 n1 : Nat) (g m : List UInt8) (gg mm : ByteArray) (kk : Nat) (R : Option (OpD × Nat)) (j at_ : Nat) (vs : List Val) (A1 : Option Addr) (cc : Nat) (xs1 : List Value) (css1 : Nat → Array Value) : Prop where
  jl : j ≤ kk
  vl : vs.length = j
  al : at_ ≤ bl
  hR : CAt wr r (some ad) bl c at_
  hp : Blk wr pb 145 #[.pointer (some ⟨r, 0, none⟩)]
  ho : Blk wr ob 30 #[.int .u32 (c1 : Int), .int .u32 (s1 : Int), .int .u16 (n1 : Int), .string gg, .string mm, .slice A1 j cc]
  row : VRow wr w.heap.size vs A1 cc xs1 css1
  hu : Upd (fun x => x = r ∨ x = ob) w wr
  hf : Hid (fin c1 s1 n1 g m vs at_ (pl rdV (kk - j) (b.drop at_)) = R)

def ClRes (w : World) (r ob : Nat) (A : Option Addr) (bl c : Nat) (R : Option (OpD × Nat)) (e : Ending) (w' : World) : Prop :=
  match R with
  | some (o, q) => e = .returned (.tuple #[]) ∧ CAt w' r A bl c q ∧ (∃ A' c' xs css, Blk w' ob 30 #[.int .u32 (o.c : Int), .int .u32 (o.s : Int), .int .u16 (o.n : Int), .string (bstr o.g), .string (bstr o.m), .slice A' o.l.length c'] ∧ VRow w' w.heap.size o.l A' c' xs css) ∧ Upd (fun x => x = r ∨ x = ob) w w'
  | none => e = .panicked shortC ∧ Upd (fun x => x = r ∨ x = ob) w w'

set_option maxHeartbeats 6400000 in
theorem read_cl {A : Option Addr} {c B r pb ob : Nat} {b : List UInt8} {w : World} (h : CAt w r A b.length c 0) (hr : Reads w B 1 A b.length (bys b)) (hA : A = none → c = 0) (hB : B ≤ r) (hBo : B ≤ ob) (hc : b.length ≤ c) (hl : b.length ≤ 1000000000)
    (hpb : Blk w pb 145 #[.pointer (some ⟨r, 0, none⟩)]) (hob : Blk w ob 30 #[.int .u32 0, .int .u32 0, .int .u16 0, .string ⟨#[]⟩, .string ⟨#[]⟩, .slice none 0 0]) (R : Option (OpD × Nat)) (hR : rdOp b = R) :
    Calls Try.prog 84 #[.pointer (some ⟨pb, 0, none⟩), .pointer (some ⟨ob, 0, none⟩)] w (ClRes w r ob A b.length c R) := by
  have hsf := fun a k x m w => run_store_float (P := Try.prog) a k x m w
  obtain ⟨i1, gi, gz0, gz1, gz2⟩ := info_parts info_val
  have hpr : pb ≠ r := hpb.ne_ h (by decide)
  have hor : ob ≠ r := hob.ne_ h (by decide)
  have hpo : pb ≠ ob := hpb.ne_ hob (by decide)
  have p0 := hpb.cell 0
  by_cases h10 : b.length < 10
  · have hRn : R = none := by rw [← hR]; unfold rdOp; rw [if_pos h10]
    subst hRn
    have hno := cid_no h hr hA hB hc hl h10
    obtain ⟨bl, hbl⟩ : ∃ bl, b.length = bl := ⟨_, rfl⟩
    rw [hbl]
    replace hno := Lib.hid hno
    clear h hr hA hc hl hob hR h10 hbl
    go_enter Try.func84, Try.ntmps84
    go_wp2_with fail
    refine hno.out.mono ?_
    rintro e w2 ⟨rfl, hu⟩
    dsimp only
    have hu' : Upd (fun x => x = r ∨ x = ob) w w2 := hu.mono (fun _ _ h => .inl h)
    go_wp2_with fail
    exact ⟨rfl, rfl, hu'⟩
  obtain ⟨ad, rfl⟩ : ∃ ad, A = some ad := by
    cases A with
    | none => have := hA rfl; omega
    | some ad => exact ⟨ad, rfl⟩
  have hRR := hR
  unfold rdOp at hRR
  rw [if_neg h10] at hRR
  obtain ⟨c1, hc1⟩ : ∃ c1, readU (b.take 4) = c1 := ⟨_, rfl⟩
  obtain ⟨s1, hs1⟩ : ∃ s1, readU ((b.drop 4).take 4) = s1 := ⟨_, rfl⟩
  obtain ⟨n1, hn1⟩ : ∃ n1, readU ((b.drop 8).take 2) = n1 := ⟨_, rfl⟩
  have hid := cid_ok h hr hB hc hl (by omega) c1 s1 n1 hc1 hs1 hn1
  have hrx := fun (w1 : World) (hu : Upd (fun x => x = r ∨ x = ob) w w1) => hr.upd hu (fun k hk e => by omega) (by have := hob.lt; omega)
  obtain ⟨⟨g, gn, ge⟩, hg⟩ : ∃ x, readT (b.drop 10) 32 = x := ⟨_, rfl⟩
  rw [hg, hc1, hs1, hn1] at hRR
  dsimp only at hRR
  have hn1o : ge = 0 → ∀ w1, CAt w1 r (some ad) b.length c 10 → Upd (fun x => x = r ∨ x = ob) w w1 → Calls Try.prog 86 #[.pointer (some ⟨r, 0, none⟩)] w1 (fun e w' => e = .returned (.string (bstr g)) ∧ CAt w' r (some ad) b.length c (10 + gn) ∧ Upd (fun x => x = r) w1 w') := fun h0 w1 h1 hu => name_ok h1 (hrx w1 hu) hB hc hl (by omega) g gn (by rw [hg, h0])
  have hn1n : ge ≠ 0 → ∀ w1, CAt w1 r (some ad) b.length c 10 → Upd (fun x => x = r ∨ x = ob) w w1 → Calls Try.prog 86 #[.pointer (some ⟨r, 0, none⟩)] w1 (fun e w' => e = .panicked shortC ∧ Below w1.heap.size w1 w') := fun h0 w1 h1 hu => name_no h1 (hrx w1 hu) (fun e => by cases e) hB hc hl (by omega) (by rw [hg]; exact h0)
  have hg10 : ge = 0 → 10 + gn ≤ b.length := fun h0 => by
    have h2 : (readT (b.drop 10) 32).2.1 ≤ (b.drop 10).length := readT_le _ _ (by rw [hg]; exact h0)
    rw [hg, List.length_drop] at h2
    have h3 : gn ≤ b.length - 10 := h2
    omega
  obtain ⟨⟨m, mn, me⟩, hm⟩ : ∃ x, readT (b.drop (10 + gn)) 32 = x := ⟨_, rfl⟩
  rw [hm] at hRR
  dsimp only at hRR
  have hn2o : ge = 0 → me = 0 → ∀ w1, CAt w1 r (some ad) b.length c (10 + gn) → Upd (fun x => x = r ∨ x = ob) w w1 → Calls Try.prog 86 #[.pointer (some ⟨r, 0, none⟩)] w1 (fun e w' => e = .returned (.string (bstr m)) ∧ CAt w' r (some ad) b.length c (10 + gn + mn) ∧ Upd (fun x => x = r) w1 w') := fun hg0 h0 w1 h1 hu => name_ok h1 (hrx w1 hu) hB hc hl (hg10 hg0) m mn (by rw [hm, h0])
  have hn2n : ge = 0 → me ≠ 0 → ∀ w1, CAt w1 r (some ad) b.length c (10 + gn) → Upd (fun x => x = r ∨ x = ob) w w1 → Calls Try.prog 86 #[.pointer (some ⟨r, 0, none⟩)] w1 (fun e w' => e = .panicked shortC ∧ Below w1.heap.size w1 w') := fun hg0 h0 w1 h1 hu => name_no h1 (hrx w1 hu) (fun e => by cases e) hB hc hl (hg10 hg0) (by rw [hm]; exact h0)
  have hm10 : ge = 0 → me = 0 → 10 + gn + mn ≤ b.length := fun hg0 h0 => by
    have h2 : (readT (b.drop (10 + gn)) 32).2.1 ≤ (b.drop (10 + gn)).length := readT_le _ _ (by rw [hm]; exact h0)
    rw [hm, List.length_drop] at h2
    have h3 : mn ≤ b.length - (10 + gn) := h2
    have := hg10 hg0
    omega
  obtain ⟨at2, hat2⟩ : ∃ at2, 10 + gn + mn = at2 := ⟨_, rfl⟩
  rw [hat2] at hRR hn2o hm10
  obtain ⟨kk, hkk⟩ : ∃ kk, readU ((b.drop at2).take 1) = kk := ⟨_, rfl⟩
  rw [hkk] at hRR
  have hk256 : kk < 256 := by
    rw [← hkk]
    refine Nat.lt_of_lt_of_le (readU_lt _) ?_
    rw [List.length_take]
    exact Nat.pow_le_pow_right (show 0 < 256 by decide) (show min 1 (b.drop at2).length ≤ 1 by omega)
  have hnuo : ge = 0 → me = 0 → at2 + 1 ≤ b.length → ∀ w1, CAt w1 r (some ad) b.length c at2 → Upd (fun x => x = r ∨ x = ob) w w1 → Calls Try.prog 87 #[.pointer (some ⟨r, 0, none⟩), .int .i64 ((1 : Nat) : Int)] w1 (CNumRes w1 r ad b.length c (at2 + 1) kk) := fun _ _ h0 w1 h1 hu => cnumber_ok h1 (hrx w1 hu) hB hc hl (by omega) (by omega) h0 kk hkk
  have hnun : ge = 0 → me = 0 → b.length < at2 + 1 → ∀ w1, CAt w1 r (some ad) b.length c at2 → Calls Try.prog 87 #[.pointer (some ⟨r, 0, none⟩), .int .i64 ((1 : Nat) : Int)] w1 (fun e w' => e = .panicked shortC ∧ Below w1.heap.size w1 w') := fun hg0 hm0 h0 w1 h1 => cnumber_no h1 (fun e => by cases e) hc hl (by omega) (hm10 hg0 hm0) h0
  have hvo := fun (at_ : Nat) (v : Val) (q : Nat) (hrd : rdV (b.drop at_) = some (v, q)) (hat : at_ ≤ b.length) w1 (h1 : CAt w1 r (some ad) b.length c at_) (hu : Upd (fun x => x = r ∨ x = ob) w w1) => cvalue_ok h1 (hrx w1 hu) hB hc hl hat v q hrd
  have hvn := fun (at_ : Nat) (hrd : rdV (b.drop at_) = none) (hat : at_ ≤ b.length) w1 (h1 : CAt w1 r (some ad) b.length c at_) (hu : Upd (fun x => x = r ∨ x = ob) w w1) => cvalue_no h1 (hrx w1 hu) (fun e => by cases e) hB hc hl hat hrd
  obtain ⟨bl, hbl⟩ : ∃ bl, b.length = bl := ⟨_, rfl⟩
  obtain ⟨gg, hgg⟩ : ∃ gg, bstr g = gg := ⟨_, rfl⟩
  obtain ⟨mm, hmm⟩ : ∃ mm, bstr m = mm := ⟨_, rfl⟩
  rw [hbl] at hid hn1o hn1n hn2o hn2n hnuo hnun hvo hvn hRR hm10 ⊢
  rw [hgg] at hn1o
  rw [hmm] at hn2o
  have hol := hob.lt
  have hpl := hpb.lt
  have hrl := Blk.lt h
  clear h hr hc hl hR hc1 hs1 hn1 hrx hg hm hg10 hat2 hkk hA
  replace hid := Lib.hid hid
  replace hn1o := Lib.hid hn1o
  replace hn1n := Lib.hid hn1n
  replace hn2o := Lib.hid hn2o
  replace hn2n := Lib.hid hn2n
  replace hnuo := Lib.hid hnuo
  replace hnun := Lib.hid hnun
  replace hvo := Lib.hid hvo
  replace hvn := Lib.hid hvn
  replace hRR := Lib.hid hRR
  replace hm10 := Lib.hid hm10
  replace hgg := Lib.hid hgg
  replace hmm := Lib.hid hmm
  replace h10 := Lib.hid h10
  replace hbl := Lib.hid hbl
  go_enter Try.func84, Try.ntmps84
  go_wp2_with fail
  refine hid.out.mono ?_
  rintro e w2 ⟨rfl, hR2, hu2⟩
  dsimp only
  have hu2' : Upd (fun x => x = r ∨ x = ob) w w2 := hu2.mono (fun _ _ h => .inl h)
  have hp2 := hpb.upd hu2 (fun e => hpr e)
  have ho2 := hob.upd hu2 (fun e => hor e)
  have z0 := ho2.cell 0
  have z1 := ho2.cell 1
  have z2 := ho2.cell 2
  have f0 := ho2.frozen 0
  have f1 := ho2.frozen 1
  have f2 := ho2.frozen 2
  have hR3 : CAt (((w2.setCell ⟨ob, 0, none⟩ (.int .u32 (c1 : Int))).setCell ⟨ob, 1, none⟩ (.int .u32 (s1 : Int))).setCell ⟨ob, 2, none⟩ (.int .u16 (n1 : Int))) r (some ad) bl c 10 := ((((show Blk w2 r _ _ from hR2).far (p := ⟨ob, 0, none⟩) (show r ≠ ob from fun e => hor e.symm) (.int .u32 (c1 : Int))).far (p := ⟨ob, 1, none⟩) (show r ≠ ob from fun e => hor e.symm) (.int .u32 (s1 : Int))).far (p := ⟨ob, 2, none⟩) (show r ≠ ob from fun e => hor e.symm) (.int .u16 (n1 : Int)))
  have hp3 : Blk (((w2.setCell ⟨ob, 0, none⟩ (.int .u32 (c1 : Int))).setCell ⟨ob, 1, none⟩ (.int .u32 (s1 : Int))).setCell ⟨ob, 2, none⟩ (.int .u16 (n1 : Int))) pb 145 #[.pointer (some ⟨r, 0, none⟩)] := (((hp2.far (p := ⟨ob, 0, none⟩) (show pb ≠ ob from hpo) (.int .u32 (c1 : Int))).far (p := ⟨ob, 1, none⟩) (show pb ≠ ob from hpo) (.int .u32 (s1 : Int))).far (p := ⟨ob, 2, none⟩) (show pb ≠ ob from hpo) (.int .u16 (n1 : Int)))
  have ho3 : Blk (((w2.setCell ⟨ob, 0, none⟩ (.int .u32 (c1 : Int))).setCell ⟨ob, 1, none⟩ (.int .u32 (s1 : Int))).setCell ⟨ob, 2, none⟩ (.int .u16 (n1 : Int))) ob 30 #[.int .u32 (c1 : Int), .int .u32 (s1 : Int), .int .u16 (n1 : Int), .string ⟨#[]⟩, .string ⟨#[]⟩, .slice none 0 0] := (((ho2.set_ 0 (.int .u32 (c1 : Int))).set_ 1 (.int .u32 (s1 : Int))).set_ 2 (.int .u16 (n1 : Int)))
  have hu3 : Upd (fun x => x = r ∨ x = ob) w (((w2.setCell ⟨ob, 0, none⟩ (.int .u32 (c1 : Int))).setCell ⟨ob, 1, none⟩ (.int .u32 (s1 : Int))).setCell ⟨ob, 2, none⟩ (.int .u16 (n1 : Int))) := (((hu2'.setCell (p := ⟨ob, 0, none⟩) (fun _ => .inr rfl) (.int .u32 (c1 : Int))).setCell (p := ⟨ob, 1, none⟩) (fun _ => .inr rfl) (.int .u32 (s1 : Int))).setCell (p := ⟨ob, 2, none⟩) (fun _ => .inr rfl) (.int .u16 (n1 : Int)))
  have p3 := hp3.cell 0
  clear hR2 hp2 ho2 hu2 hu2' p0
  go_wp2_with fail
  generalize (((w2.setCell ⟨ob, 0, none⟩ (.int .u32 (c1 : Int))).setCell ⟨ob, 1, none⟩ (.int .u32 (s1 : Int))).setCell ⟨ob, 2, none⟩ (.int .u16 (n1 : Int))) = w3 at *
  clear z0 z1 z2 f0 f1 f2 p3 hid
  by_cases hge : ge = 0
  case neg =>
    have hRn : R = none := by rw [← hRR.out, if_pos hge]
    subst hRn
    refine (hn1n.out hge w3 hR3 hu3).mono ?_
    rintro e w4 ⟨rfl, hb4⟩
    dsimp only
    have hu4 := hu3.trans (Upd.of_below_size (S := fun x => x = r ∨ x = ob) hb4) (fun _ _ h => h)
    go_wp2_with fail
    exact ⟨rfl, rfl, hu4⟩
  have hRR2 := hRR.out
  rw [if_neg (by simpa using hge)] at hRR2
  replace hRR2 := Lib.hid hRR2
  refine (hn1o.out hge w3 hR3 hu3).mono ?_
  rintro e w4 ⟨rfl, hR4, hu4⟩
  dsimp only
  have hp4 := hp3.upd hu4 (fun e => hpr e)
  have ho4 := ho3.upd hu4 (fun e => hor e)
  have hu4' := hu3.trans hu4 (fun _ _ h => .inl h)
  have z3 := ho4.cell 3
  have f3 := ho4.frozen 3
  have hR5 : CAt (w4.setCell ⟨ob, 3, none⟩ (.string gg)) r (some ad) bl c (10 + gn) := ((show Blk w4 r _ _ from hR4).far (p := ⟨ob, 3, none⟩) (show r ≠ ob from fun e => hor e.symm) (.string gg))
  have hp5 := (hp4.far (p := ⟨ob, 3, none⟩) (show pb ≠ ob from hpo) (.string gg))
  have ho5 := (ho4.set_ 3 (.string gg))
  have hu5 := (hu4'.setCell (p := ⟨ob, 3, none⟩) (fun _ => .inr rfl) (.string gg))
  have p5 := hp5.cell 0
  clear hR4 hp4 ho4 hu4 hu4' hR3 hp3 ho3 hu3
  go_wp2_with fail
  generalize w4.setCell ⟨ob, 3, none⟩ (.string gg) = w5 at *
  clear z3 f3 p5 hn1o hn1n
  by_cases hme : me = 0
  case neg =>
    have hRn : R = none := by rw [← hRR2.out, if_pos hme]
    subst hRn
    refine (hn2n.out hge hme w5 hR5 hu5).mono ?_
    rintro e w6 ⟨rfl, hb6⟩
    dsimp only
    have hu6 := hu5.trans (Upd.of_below_size (S := fun x => x = r ∨ x = ob) hb6) (fun _ _ h => h)
    go_wp2_with fail
    exact ⟨rfl, rfl, hu6⟩
  have hRR3 := hRR2.out
  rw [if_neg (by simpa using hme)] at hRR3
  replace hRR3 := Lib.hid hRR3
  refine (hn2o.out hge hme w5 hR5 hu5).mono ?_
  rintro e w6 ⟨rfl, hR6, hu6⟩
  dsimp only
  have hp6 := hp5.upd hu6 (fun e => hpr e)
  have ho6 := ho5.upd hu6 (fun e => hor e)
  have hu6' := hu5.trans hu6 (fun _ _ h => .inl h)
  have z4 := ho6.cell 4
  have f4 := ho6.frozen 4
  have hR7 : CAt (w6.setCell ⟨ob, 4, none⟩ (.string mm)) r (some ad) bl c at2 := ((show Blk w6 r _ _ from hR6).far (p := ⟨ob, 4, none⟩) (show r ≠ ob from fun e => hor e.symm) (.string mm))
  have hp7 := (hp6.far (p := ⟨ob, 4, none⟩) (show pb ≠ ob from hpo) (.string mm))
  have ho7 : Blk (w6.setCell ⟨ob, 4, none⟩ (.string mm)) ob 30 #[.int .u32 (c1 : Int), .int .u32 (s1 : Int), .int .u16 (n1 : Int), .string gg, .string mm, .slice none 0 0] := (ho6.set_ 4 (.string mm))
  have hu7 := (hu6'.setCell (p := ⟨ob, 4, none⟩) (fun _ => .inr rfl) (.string mm))
  have p7 := hp7.cell 0
  clear hR6 hp6 ho6 hu6 hu6' hR5 hp5 ho5 hu5
  go_wp2_with fail
  generalize w6.setCell ⟨ob, 4, none⟩ (.string mm) = w7 at *
  clear z4 f4 p7 hn2o hn2n hRR hRR2
  by_cases hnu : bl < at2 + 1
  · have hRn : R = none := by rw [← hRR3.out, if_pos hnu]
    subst hRn
    refine (hnun.out hge hme hnu w7 hR7).mono ?_
    rintro e w8 ⟨rfl, hb8⟩
    dsimp only
    have hu8 := hu7.trans (Upd.of_below_size (S := fun x => x = r ∨ x = ob) hb8) (fun _ _ h => h)
    go_wp2_with fail
    exact ⟨rfl, rfl, hu8⟩
  have hRR4 := hRR3.out
  rw [if_neg hnu] at hRR4
  refine (hnuo.out hge hme (by omega) w7 hR7 hu7).mono ?_
  rintro e w8 ⟨rfl, hR8, hu8⟩
  dsimp only
  have hp8 := hp7.upd hu8 (fun e => hpr e)
  have ho8 := ho7.upd hu8 (fun e => hor e)
  have hu8' := hu7.trans hu8 (fun _ _ h => .inl h)
  clear hR7 hp7 ho7 hu7 hu8 hnuo hnun hRR3
  by_cases hk16 : 16 < kk
  · have hRn : R = none := by rw [← hRR4, if_pos hk16]
    subst hRn
    have hd : decide ((kk : Int) ≤ 16) = false := decide_eq_false (by omega)
    clear hRR4
    go_wp2_with fail
    refine (cmust_no _).mono ?_
    rintro e w9 ⟨rfl, rfl⟩
    dsimp only
    go_wp2_with fail
    exact ⟨rfl, rfl, hu8'⟩
  rw [if_neg hk16] at hRR4
  replace hRR4 := Lib.hid hRR4
  have hd : decide ((kk : Int) ≤ 16) = true := decide_eq_true (by omega)
  go_wp2_with fail
  refine (cmust_ok _).mono ?_
  rintro e w9 ⟨rfl, rfl⟩
  dsimp only
  clear hd
  go_wp2_with fail
  have hnil := VRow.nil w8 w.heap.size
  have hf0 : fin c1 s1 n1 g m [] (at2 + 1) (pl rdV (kk - 0) (b.drop (at2 + 1))) = R := by
    rw [← hRR4.out, Nat.sub_zero]
    cases pl rdV kk (b.drop (at2 + 1)) with
    | none => rfl
    | some x => rfl
  replace hf0 := Lib.hid hf0
  have h0l : at2 + 1 ≤ bl := by omega
  clear hRR4 hm10
  go_loopw [18] (fun ii wr => ∃ (j at_ : Nat) (vs : List Val) (A1 : Option Addr) (cc : Nat) (xs1 : List Value) (css1 : Nat → Array Value), ii = .int .u64 (j : Int) ∧ ArgRel w wr r pb ob ad b bl c c1 s1 n1 g m gg mm kk R j at_ vs A1 cc xs1 css1) (fun ii _ => kk - (intOf ii).toNat)
  case atStart => exact ⟨0, at2 + 1, [], none, 0, [], _, rfl, Nat.zero_le _, rfl, h0l, hR8, hp8, ho8, hnil, hu8', hf0⟩
  case round =>
    obtain ⟨j, at_, vs, A1, cc, xs1, css1, rfl, Q⟩ := hrel
    by_cases hlt : j < kk
    · have hd : decide ((j : Int) < (kk : Int)) = true := decide_eq_true (by omega)
      cases hrd : rdV (b.drop at_) with
      | none =>
        have hRn : R = none := by
          rw [← Q.hf.out, pl_none (by omega) hrd]; rfl
        subst hRn
        have hcall := fun (w4 : World) (h1 : CAt w4 r (some ad) bl c at_) (h2 : Upd (fun x => x = r ∨ x = ob) w w4) => hvn.out at_ hrd Q.al w4 h1 h2
        replace hcall := Lib.hid hcall
        have hS : wr.drew.cell? ⟨ob, 5, none⟩ = some (.slice A1 j cc) ∧ wr.drew.cell? ⟨pb, 0, none⟩ = some (.pointer (some ⟨r, 0, none⟩)) := ⟨Q.ho.cell 5, Q.hp.cell 0⟩
        have hwl := Q.hu.size
        have hvl := Q.vl
        go_wp2_with fail
        clear hd
        refine wp_region_plan (fun W => W.cell? ⟨ob, 5, none⟩ = some (.slice A1 j cc) ∧ W.cell? ⟨pb, 0, none⟩ = some (.pointer (some ⟨r, 0, none⟩))) [1, 2] [3, 5, 6, 8, 10] (.one 0 (.one 1 (.one 2 (.one 4 (.two 3 (.one 5 (.one 6 (.one 7 (.one 9 (.two 8 (.one 10 .nil) 10 (.one 8 .nil)))))) 5 (.one 3 (.one 6 (.one 7 (.one 9 (.two 8 (.one 10 .nil) 10 (.one 8 .nil))))))))))) (by kernel_rfl) rfl rfl (by kernel_rfl) (by kernel_rfl) (fun _ _ d _ _ h => by cases d <;> exact h) ?_
        repeat (first | (refine planG_take _ ?_ rfl rfl rfl rfl (fun _ => ?_) ?_; rotate_left; (focus (go_simp; with_reducible rfl)); try simp only [Act.put, List.setIfInBounds_toArray, List.set_cons_zero, List.set_cons_succ]) | (refine planG_held _ ?_ rfl rfl rfl rfl (by assumption) (fun _ hSw => ?_) ?_; rotate_left; (focus ((try dsimp only at hSw); go_simp; with_reducible rfl)); try simp only [Act.put, List.setIfInBounds_toArray, List.set_cons_zero, List.set_cons_succ]) | (refine planG_skip _ rfl rfl (by assumption) ?_; try simp only [Act.put, List.setIfInBounds_toArray, List.set_cons_zero, List.set_cons_succ]))
        refine planG_two rfl rfl ?_ ?_
        · refine planG_now _ rfl rfl rfl (fun K hK => ?_)
          go_wp2_with fail
          refine (hcall.out wr.drew Q.hR.drew Q.hu.drew).mono ?_
          rintro e w5 ⟨rfl, hb5⟩
          dsimp only
          have hu5 := Q.hu.drew.trans (Upd.of_below_size (S := fun x => x = r ∨ x = ob) hb5) (fun _ _ h => h)
          go_wp2_with fail
          exact ⟨rfl, rfl, hu5⟩
        · refine planG_now _ rfl rfl rfl (fun K hK => ?_)
          go_wp2_with fail
          have hob5 := (Q.ho.alloc (.cells #[.int .i64 0, .int .i64 0, .float .f64 0, .string ⟨#[]⟩, .slice none 0 0] 110)).drew
          have hpb5 := (Q.hp.alloc (.cells #[.int .i64 0, .int .i64 0, .float .f64 0, .string ⟨#[]⟩, .slice none 0 0] 110)).drew
          have hR5 : CAt (wr.alloc (.cells #[.int .i64 0, .int .i64 0, .float .f64 0, .string ⟨#[]⟩, .slice none 0 0] 110)).drew r (some ad) bl c at_ := Blk.drew (Blk.alloc Q.hR (.cells #[.int .i64 0, .int .i64 0, .float .f64 0, .string ⟨#[]⟩, .slice none 0 0] 110))
          have hu5 := (Q.hu.alloc (.cells #[.int .i64 0, .int .i64 0, .float .f64 0, .string ⟨#[]⟩, .slice none 0 0] 110)).drew
          refine hK _ _ _ (fun _ h => h) ⟨hob5.cell 5, hpb5.cell 0⟩ ?_
          clear hK K hS
          generalize (wr.alloc (.cells #[.int .i64 0, .int .i64 0, .float .f64 0, .string ⟨#[]⟩, .slice none 0 0] 110)).drew = w4 at *
          try simp only [Act.put, List.setIfInBounds_toArray, List.set_cons_zero, List.set_cons_succ]
          repeat (first | (refine planG_take _ ?_ rfl rfl rfl rfl (fun _ => ?_) ?_; rotate_left; (focus (go_simp; with_reducible rfl)); try simp only [Act.put, List.setIfInBounds_toArray, List.set_cons_zero, List.set_cons_succ]) | (refine planG_held _ ?_ rfl rfl rfl rfl (by assumption) (fun _ hSw => ?_) ?_; rotate_left; (focus ((try dsimp only at hSw); go_simp; with_reducible rfl)); try simp only [Act.put, List.setIfInBounds_toArray, List.set_cons_zero, List.set_cons_succ]) | (refine planG_skip _ rfl rfl (by assumption) ?_; try simp only [Act.put, List.setIfInBounds_toArray, List.set_cons_zero, List.set_cons_succ]))
          refine planG_now _ rfl rfl rfl (fun K hK => ?_)
          go_wp2_with fail
          refine (hcall.out w4 hR5 hu5).mono ?_
          rintro e w5 ⟨rfl, hb5⟩
          dsimp only
          have hu6 := hu5.trans (Upd.of_below_size (S := fun x => x = r ∨ x = ob) hb5) (fun _ _ h => h)
          go_wp2_with fail
          exact ⟨rfl, rfl, hu6⟩
      | some x =>
        obtain ⟨v, q⟩ := x
        have hfn : fin c1 s1 n1 g m (vs ++ [v]) (at_ + q) (pl rdV (kk - (j + 1)) (b.drop (at_ + q))) = R := by
          rw [← Q.hf.out, fin_step _ _ _ _ _ _ _ _ _ _ _ (by omega) hrd, Nat.sub_sub]
        have hatq : at_ + q ≤ bl := by
          have h1 := rdV_le hrd
          rw [List.length_drop, hbl.out] at h1
          have := Q.al
          omega
        replace hfn := Lib.hid hfn
        have hj16 : j < 16 := by omega
        have hvl := Q.vl
        have hwl := Q.hu.size
        have hS : wr.drew.cell? ⟨ob, 5, none⟩ = some (.slice A1 j cc) ∧ wr.drew.cell? ⟨pb, 0, none⟩ = some (.pointer (some ⟨r, 0, none⟩)) := ⟨Q.ho.cell 5, Q.hp.cell 0⟩
        have hcall := fun (w4 : World) (h1 : CAt w4 r (some ad) bl c at_) (h2 : Upd (fun x => x = r ∨ x = ob) w w4) => hvo.out at_ v q hrd Q.al w4 h1 h2
        replace hcall := Lib.hid hcall
        replace hrd := Lib.hid hrd
        go_wp2_with fail
        clear hd
        refine wp_region_plan (fun W => W.cell? ⟨ob, 5, none⟩ = some (.slice A1 j cc) ∧ W.cell? ⟨pb, 0, none⟩ = some (.pointer (some ⟨r, 0, none⟩))) [1, 2] [3, 5, 6, 8, 10] (.one 0 (.one 1 (.one 2 (.one 4 (.two 3 (.one 5 (.one 6 (.one 7 (.one 9 (.two 8 (.one 10 .nil) 10 (.one 8 .nil)))))) 5 (.one 3 (.one 6 (.one 7 (.one 9 (.two 8 (.one 10 .nil) 10 (.one 8 .nil))))))))))) (by kernel_rfl) rfl rfl (by kernel_rfl) (by kernel_rfl) (fun _ _ d _ _ h => by cases d <;> exact h) ?_
        repeat (first | (refine planG_take _ ?_ rfl rfl rfl rfl (fun _ => ?_) ?_; rotate_left; (focus (go_simp; with_reducible rfl)); try simp only [Act.put, List.setIfInBounds_toArray, List.set_cons_zero, List.set_cons_succ]) | (refine planG_held _ ?_ rfl rfl rfl rfl (by assumption) (fun _ hSw => ?_) ?_; rotate_left; (focus ((try dsimp only at hSw); go_simp; with_reducible rfl)); try simp only [Act.put, List.setIfInBounds_toArray, List.set_cons_zero, List.set_cons_succ]) | (refine planG_skip _ rfl rfl (by assumption) ?_; try simp only [Act.put, List.setIfInBounds_toArray, List.set_cons_zero, List.set_cons_succ]))
        refine planG_two rfl rfl ?_ ?_
        · refine planG_now _ rfl rfl rfl (fun K hK => ?_)
          go_wp2_with fail
          refine (hcall.out wr.drew Q.hR.drew Q.hu.drew).mono ?_
          rintro e w5 ⟨cs, rfl, hv5, hR5, hu5⟩
          dsimp only
          have hcs5 := hv5.size
          have hone' := hv5.one
          obtain ⟨a0, a1, a2, a3, a4, rfl⟩ : ∃ a0 a1 a2 a3 a4, cs = #[a0, a1, a2, a3, a4] := by
            match cs, hcs5 with
            | ⟨[a0, a1, a2, a3, a4]⟩, _ => exact ⟨a0, a1, a2, a3, a4, rfl⟩
          have hone := hone'
          have hu5' : Upd (fun x => x = r) wr w5 := upd_of_drew hu5
          have ho5 := Q.ho.upd hu5' (fun e => hor e)
          have hp5 := Q.hp.upd hu5' (fun e => hpr e)
          have hv6' : VOwn w5 (fun g => wr.heap.size ≤ g ∧ g < w5.heap.size) v #[a0, a1, a2, a3, a4] := hv5.mono (fun g hg h => ⟨h, hg⟩)
          have own5 := Q.row.ho.upd hu5' (fun g hg e => by have := Q.row.hA g hg; omega)
          rw [hvl] at own5
          refine hK _ _ _ (fun _ h => h) ⟨ho5.cell 5, hp5.cell 0⟩ ?_
          clear hK K hS
          try simp only [Act.put, List.setIfInBounds_toArray, List.set_cons_zero, List.set_cons_succ]
          repeat (first | (refine planG_take _ ?_ rfl rfl rfl rfl (fun _ => ?_) ?_; rotate_left; (focus (go_simp; with_reducible rfl)); try simp only [Act.put, List.setIfInBounds_toArray, List.set_cons_zero, List.set_cons_succ]) | (refine planG_held _ ?_ rfl rfl rfl rfl (by assumption) (fun _ hSw => ?_) ?_; rotate_left; (focus ((try dsimp only at hSw); go_simp; with_reducible rfl)); try simp only [Act.put, List.setIfInBounds_toArray, List.set_cons_zero, List.set_cons_succ]) | (refine planG_skip _ rfl rfl (by assumption) ?_; try simp only [Act.put, List.setIfInBounds_toArray, List.set_cons_zero, List.set_cons_succ]))
          refine planG_now _ rfl rfl rfl (fun K hK => ?_)
          go_wp2_with fail
          have ho6 := ho5.alloc (.cells #[.int .i64 0, .int .i64 0, .float .f64 0, .string ⟨#[]⟩, .slice none 0 0] 110)
          have hp6 := hp5.alloc (.cells #[.int .i64 0, .int .i64 0, .float .f64 0, .string ⟨#[]⟩, .slice none 0 0] 110)
          have hR6 : CAt (w5.alloc (.cells #[.int .i64 0, .int .i64 0, .float .f64 0, .string ⟨#[]⟩, .slice none 0 0] 110)) r (some ad) bl c (at_ + q) := Blk.alloc hR5 (.cells #[.int .i64 0, .int .i64 0, .float .f64 0, .string ⟨#[]⟩, .slice none 0 0] 110)
          have own6 := own5.alloc (.cells #[.int .i64 0, .int .i64 0, .float .f64 0, .string ⟨#[]⟩, .slice none 0 0] 110)
          have hsrc := lit_reads (Blk.new w5 110 #[.int .i64 0, .int .i64 0, .float .f64 0, .string ⟨#[]⟩, .slice none 0 0])
          have hv6 := hv6'.upd ((Upd.refl (fun _ => False) w5).alloc (.cells #[.int .i64 0, .int .i64 0, .float .f64 0, .string ⟨#[]⟩, .slice none 0 0] 110)) (fun _ _ h => h)
          have hu0 := hu5'.alloc (.cells #[.int .i64 0, .int .i64 0, .float .f64 0, .string ⟨#[]⟩, .slice none 0 0] 110)
          have hs6 : (w5.alloc (.cells #[.int .i64 0, .int .i64 0, .float .f64 0, .string ⟨#[]⟩, .slice none 0 0] 110)).heap.size = w5.heap.size + 1 := by simp
          have hu6 := Q.hu.trans (hu0.mono (T := fun x => x = r ∨ x = ob) (fun _ _ h => .inl h)) (fun _ _ h => h)
          refine hK _ _ _ (fun _ h => h) ⟨ho6.cell 5, hp6.cell 0⟩ ?_
          clear hK K hu5 hv5 hone' hcs5 ho5 hp5 own5 hv6' hR5
          try simp only [Act.put, List.setIfInBounds_toArray, List.set_cons_zero, List.set_cons_succ]
          repeat (first | (refine planG_take _ ?_ rfl rfl rfl rfl (fun _ => ?_) ?_; rotate_left; (focus (go_simp; with_reducible rfl)); try simp only [Act.put, List.setIfInBounds_toArray, List.set_cons_zero, List.set_cons_succ]) | (refine planG_held _ ?_ rfl rfl rfl rfl (by assumption) (fun _ hSw => ?_) ?_; rotate_left; (focus ((try dsimp only at hSw); go_simp; with_reducible rfl)); try simp only [Act.put, List.setIfInBounds_toArray, List.set_cons_zero, List.set_cons_succ]) | (refine planG_skip _ rfl rfl (by assumption) ?_; try simp only [Act.put, List.setIfInBounds_toArray, List.set_cons_zero, List.set_cons_succ]))
          generalize w5.alloc (.cells #[.int .i64 0, .int .i64 0, .float .f64 0, .string ⟨#[]⟩, .slice none 0 0] 110) = w6 at *
          refine planG_now _ rfl rfl rfl (fun K hK => ?_)
          refine wp_append_mine _ _ 28 28 rfl 110 i1 _ 5 64 Try.underlying28 gi gz0 gz1 gz2 rfl rfl own6 rfl (Src.ofReads Try.underlying28 _ hsrc (by intro u hu; simp at hu; rcases hu with rfl | rfl | rfl | rfl | rfl <;> rfl)) (by unfold maxLen; omega) (by omega) (fun A8 c8 w8 ho8 hg8 hat8 => ?_)
          have hA1 : ∀ g, bOf A1 = some g → w.heap.size ≤ g := Q.row.hA
          have hA8 : ∀ g, bOf A8 = some g → w.heap.size ≤ g := fun g hg => by
            rcases hat8 with h | h
            · rw [h] at hg; exact hA1 g hg
            · rw [h] at hg; cases hg; exact hu6.size
          obtain ⟨g8, rfl⟩ : ∃ g8, A8 = some ⟨g8, 0, none⟩ := by
            rcases ho8.2 with ⟨h1, _⟩ | ⟨g8, _, h1, _⟩
            · omega
            · exact ⟨g8, h1⟩
          have hg8w := hA8 g8 rfl
          obtain ⟨hel, hth⟩ := own_last (news := [a0, a1, a2, a3, a4]) ho8 (by rw [Q.row.ho.1, hvl]) rfl rfl
          have ho8b := ho6.grown hg8 (fun e => by have := hA1 _ e.symm; omega)
          have hp8b := hp6.grown hg8 (fun e => by have := hA1 _ e.symm; omega)
          have hR8b : CAt w8 r (some ad) bl c (at_ + q) := Blk.grown hR6 hg8 (fun e => by have := hA1 _ e.symm; omega)
          have hv8 := hv6.upd ((Upd.refl (fun x => some x = bOf A1) w6).grown hg8 (fun k hk _ => hk.symm)) (fun g hg e => by have := Q.row.ho.lt e.symm; omega)
          have hne8 : ∀ g, wr.heap.size ≤ g ∧ g < w5.heap.size → g ≠ g8 := fun g hg e => by
            subst e
            rcases hat8 with h | h
            · exact absurd (show g < wr.heap.size from Q.row.ho.lt h.symm) (by omega)
            · have h9 : (some g : Option Nat) = some w6.heap.size := h
              cases h9; omega
          refine hK _ _ _ (fun _ h => h) ⟨ho8b.cell 5, hp8b.cell 0⟩ ?_
          clear hK K own6 hsrc ho6 hp6 hR6 hv6 hu6
          try simp only [Act.put, List.setIfInBounds_toArray, List.set_cons_zero, List.set_cons_succ]
          have hjj : (j : Int) < (j : Int) + 1 := by omega
          repeat (first | (refine planG_take _ ?_ rfl rfl rfl rfl (fun _ => ?_) ?_; rotate_left; (focus (go_simp; with_reducible rfl)); try simp only [Act.put, List.setIfInBounds_toArray, List.set_cons_zero, List.set_cons_succ]) | (refine planG_held _ ?_ rfl rfl rfl rfl (by assumption) (fun _ hSw => ?_) ?_; rotate_left; (focus ((try dsimp only at hSw); go_simp; with_reducible rfl)); try simp only [Act.put, List.setIfInBounds_toArray, List.set_cons_zero, List.set_cons_succ]) | (refine planG_skip _ rfl rfl (by assumption) ?_; try simp only [Act.put, List.setIfInBounds_toArray, List.set_cons_zero, List.set_cons_succ]))
          clear hjj
          refine planG_two rfl rfl ?_ ?_
          · refine planG_nowF _ rfl rfl rfl (by kernel_rfl) (fun K hK => ?_)
            refine wp_store_mid 110 (Operand.tmp 27) (Operand.tmp 23) rfl g8 (j * 5) #[a0, a1, a2, a3, a4] (by simp [go_sem, add_row]) (by simp [go_sem]) hth (by kernel_rfl) (by simpa using hone) ?_
            refine hK _ _ ?_
            clear hK K
            have hu9 : Upd (fun x => x = g8) w8 (w8.setCells g8 (j * 5) [a0, a1, a2, a3, a4]) := by
              obtain ⟨s1, s2, s3, s4⟩ := setCells_same g8 (j * 5) [a0, a1, a2, a3, a4] w8
              exact ⟨s1, s2, s3, by omega, fun k _ hk => setCells_other g8 _ k hk _ w8⟩
            have ho9 := ho8b.upd hu9 (fun e => by omega)
            have hp9 := hp8b.upd hu9 (fun e => by omega)
            have hR9 : CAt (w8.setCells g8 (j * 5) [a0, a1, a2, a3, a4]) r (some ad) bl c (at_ + q) := Blk.upd hR8b hu9 (fun e => by omega)
            have hv9 := hv8.upd hu9 (fun g hg e => hne8 g hg e)
            generalize w8.setCells g8 (j * 5) [a0, a1, a2, a3, a4] = w9 at *
            try simp only [Act.put, List.setIfInBounds_toArray, List.set_cons_zero, List.set_cons_succ]
            refine planG_nowF _ rfl rfl rfl (by kernel_rfl) (fun K hK => ?_)
            have y5 := ho9.cell 5
            have yf := ho9.frozen 5
            go_simp
            refine hK _ _ ?_
            clear hK K
            refine planG_nil ?_
            have hu9b := (Upd.refl (fun x => x = ob) w9).setCell (p := ⟨ob, 5, none⟩) (fun _ => rfl) (.slice (some ⟨g8, 0, none⟩) (j + 1) c8)
            have hu10 : Upd (fun x => x = g8 ∨ x = ob) w8 (w9.setCell ⟨ob, 5, none⟩ (.slice (some ⟨g8, 0, none⟩) (j + 1) c8)) := (hu9.mono (T := fun x => x = g8 ∨ x = ob) (fun _ _ h => .inl h)).trans hu9b (fun _ _ h => .inr h)
            have hR10 := (show Blk w9 r _ _ from hR9).far (p := ⟨ob, 5, none⟩) (show r ≠ ob from fun e => hor e.symm) (.slice (some ⟨g8, 0, none⟩) (j + 1) c8)
            have hp10 := hp9.far (p := ⟨ob, 5, none⟩) (show pb ≠ ob from hpo) (.slice (some ⟨g8, 0, none⟩) (j + 1) c8)
            have ho10 := ho9.set_ 5 (.slice (some ⟨g8, 0, none⟩) (j + 1) c8)
            have hel10 := hel.upd hu9b (fun g hg e => by have h9 : w.heap.size ≤ g := hA8 g hg; omega)
            have hv10 := hv9.upd hu9b (fun g hg e => by omega)
            clear hel hth hu9 ho9 hp9 hR9 hv9 y5 yf hu9b ho8b hp8b hR8b hv8 ho8 hone
            have huall : Upd (fun x => (x = r ∨ x = ob) ∨ some x = bOf A1) wr (w9.setCell ⟨ob, 5, none⟩ (.slice (some ⟨g8, 0, none⟩) (j + 1) c8)) := by
              refine ((((hu0.mono (T := fun x => (x = r ∨ x = ob) ∨ some x = bOf A1) (fun _ _ h => .inl (.inl h))).grown hg8 (fun k hk _ => .inr hk.symm)).trans hu10 (fun i hi e => ?_)))
              rcases e with e | e
              · subst e
                rcases hat8 with h | h
                · exact .inr h
                · have h9 : (some i : Option Nat) = some w6.heap.size := h
                  cases h9
                  have := hu0.size
                  omega
              · exact .inl (.inr e)
            have hnew : ArgRel w (w9.setCell ⟨ob, 5, none⟩ (.slice (some ⟨g8, 0, none⟩) (j + 1) c8)) r pb ob ad b bl c c1 s1 n1 g m gg mm kk R (j + 1) (at_ + q) (vs ++ [v]) (some ⟨g8, 0, none⟩) c8 (xs1 ++ (#[a0, a1, a2, a3, a4] : Array Value).toList) (fun k => if k = vs.length then #[a0, a1, a2, a3, a4] else css1 k) := by
              refine ⟨by omega, by rw [List.length_append, Q.vl]; rfl, hatq, hR10, hp10, ho10, Q.row.push2 (cs := #[a0, a1, a2, a3, a4]) (T := fun x => x = r ∨ x = ob) ?_ hA8 huall (fun g hg => by rcases hg with h | h <;> omega) ?_ ?_, (Q.hu.trans huall (fun i hi e => ?_)), Lib.hid hfn.out⟩
              · rw [Q.vl]
                exact hel10
              · rcases hat8 with h | h
                · exact .inl h
                · exact .inr (fun g hg => by rw [h] at hg; cases hg; have := hu0.size; omega)
              · exact hv10.mono (fun g _ hg => ⟨by omega, fun e => hne8 g hg (by cases e; rfl)⟩)
              · rcases e with e | e
                · exact e
                · have := hA1 i e.symm; omega
            replace hnew := Lib.hid hnew
            clear Q hv10 hu0 hg8 hat8 hu10 huall hne8 hR10 hp10 ho10 hel10
            go_wp2_with fail
            go_roundw
            case rel => exact ⟨j + 1, at_ + q, vs ++ [v], _, c8, _, _, by simp, hnew.out⟩
            case measure => simp [intOf]; omega
          · refine planG_nowF _ rfl rfl rfl (by kernel_rfl) (fun K hK => ?_)
            have y5 := ho8b.cell 5
            have yf := ho8b.frozen 5
            go_simp
            refine hK _ _ ?_
            clear hK K
            have hu9 := (Upd.refl (fun x => x = ob) w8).setCell (p := ⟨ob, 5, none⟩) (fun _ => rfl) (.slice (some ⟨g8, 0, none⟩) (j + 1) c8)
            have hR9 : CAt (w8.setCell ⟨ob, 5, none⟩ (.slice (some ⟨g8, 0, none⟩) (j + 1) c8)) r (some ad) bl c (at_ + q) := (show Blk w8 r _ _ from hR8b).far (p := ⟨ob, 5, none⟩) (show r ≠ ob from fun e => hor e.symm) (.slice (some ⟨g8, 0, none⟩) (j + 1) c8)
            have hp9 := hp8b.far (p := ⟨ob, 5, none⟩) (show pb ≠ ob from hpo) (.slice (some ⟨g8, 0, none⟩) (j + 1) c8)
            have ho9 := ho8b.set_ 5 (.slice (some ⟨g8, 0, none⟩) (j + 1) c8)
            have hv9 := hv8.upd hu9 (fun g hg e => by omega)
            have ho89 := ho8.upd hu9 (fun g hg e => by have h9 : w.heap.size ≤ g := hA8 g hg; omega)
            obtain ⟨hel9, hth9⟩ := own_last (news := [a0, a1, a2, a3, a4]) ho89 (by rw [Q.row.ho.1, hvl]) rfl rfl
            generalize w8.setCell ⟨ob, 5, none⟩ (.slice (some ⟨g8, 0, none⟩) (j + 1) c8) = w9 at *
            try simp only [Act.put, List.setIfInBounds_toArray, List.set_cons_zero, List.set_cons_succ]
            refine planG_nowF _ rfl rfl rfl (by kernel_rfl) (fun K hK => ?_)
            refine wp_store_mid 110 (Operand.tmp 27) (Operand.tmp 23) rfl g8 (j * 5) #[a0, a1, a2, a3, a4] (by simp [go_sem, add_row]) (by simp [go_sem]) hth9 (by kernel_rfl) (by simpa using hone) ?_
            refine hK _ _ ?_
            clear hK K
            refine planG_nil ?_
            have hu9b : Upd (fun x => x = g8) w9 (w9.setCells g8 (j * 5) [a0, a1, a2, a3, a4]) := by
              obtain ⟨s1, s2, s3, s4⟩ := setCells_same g8 (j * 5) [a0, a1, a2, a3, a4] w9
              exact ⟨s1, s2, s3, by omega, fun k _ hk => setCells_other g8 _ k hk _ w9⟩
            have hu10 : Upd (fun x => x = g8 ∨ x = ob) w8 (w9.setCells g8 (j * 5) [a0, a1, a2, a3, a4]) := (hu9.mono (T := fun x => x = g8 ∨ x = ob) (fun _ _ h => .inr h)).trans hu9b (fun _ _ h => .inl h)
            have hR10 : CAt (w9.setCells g8 (j * 5) [a0, a1, a2, a3, a4]) r (some ad) bl c (at_ + q) := Blk.upd hR9 hu9b (fun e => by omega)
            have hp10 := hp9.upd hu9b (fun e => by omega)
            have ho10 := ho9.upd hu9b (fun e => by omega)
            have hel10 := hel9
            have hv10 := hv9.upd hu9b (fun g hg e => hne8 g hg e)
            clear hel hth hel9 hth9 ho89 hu9 ho9 hp9 hR9 hv9 y5 yf hu9b ho8b hp8b hR8b hv8 ho8 hone
            have huall : Upd (fun x => (x = r ∨ x = ob) ∨ some x = bOf A1) wr (w9.setCells g8 (j * 5) [a0, a1, a2, a3, a4]) := by
              refine ((((hu0.mono (T := fun x => (x = r ∨ x = ob) ∨ some x = bOf A1) (fun _ _ h => .inl (.inl h))).grown hg8 (fun k hk _ => .inr hk.symm)).trans hu10 (fun i hi e => ?_)))
              rcases e with e | e
              · subst e
                rcases hat8 with h | h
                · exact .inr h
                · have h9 : (some i : Option Nat) = some w6.heap.size := h
                  cases h9
                  have := hu0.size
                  omega
              · exact .inl (.inr e)
            have hnew : ArgRel w (w9.setCells g8 (j * 5) [a0, a1, a2, a3, a4]) r pb ob ad b bl c c1 s1 n1 g m gg mm kk R (j + 1) (at_ + q) (vs ++ [v]) (some ⟨g8, 0, none⟩) c8 (xs1 ++ (#[a0, a1, a2, a3, a4] : Array Value).toList) (fun k => if k = vs.length then #[a0, a1, a2, a3, a4] else css1 k) := by
              refine ⟨by omega, by rw [List.length_append, Q.vl]; rfl, hatq, hR10, hp10, ho10, Q.row.push2 (cs := #[a0, a1, a2, a3, a4]) (T := fun x => x = r ∨ x = ob) ?_ hA8 huall (fun g hg => by rcases hg with h | h <;> omega) ?_ ?_, (Q.hu.trans huall (fun i hi e => ?_)), Lib.hid hfn.out⟩
              · rw [Q.vl]
                exact hel10
              · rcases hat8 with h | h
                · exact .inl h
                · exact .inr (fun g hg => by rw [h] at hg; cases hg; have := hu0.size; omega)
              · exact hv10.mono (fun g _ hg => ⟨by omega, fun e => hne8 g hg (by cases e; rfl)⟩)
              · rcases e with e | e
                · exact e
                · have := hA1 i e.symm; omega
            replace hnew := Lib.hid hnew
            clear Q hv10 hu0 hg8 hat8 hu10 huall hne8 hR10 hp10 ho10 hel10
            go_wp2_with fail
            go_roundw
            case rel => exact ⟨j + 1, at_ + q, vs ++ [v], _, c8, _, _, by simp, hnew.out⟩
            case measure => simp [intOf]; omega
        · refine planG_now _ rfl rfl rfl (fun K hK => ?_)
          go_wp2_with fail
          have ho4 := (Q.ho.alloc (.cells #[.int .i64 0, .int .i64 0, .float .f64 0, .string ⟨#[]⟩, .slice none 0 0] 110)).drew
          have hp4 := (Q.hp.alloc (.cells #[.int .i64 0, .int .i64 0, .float .f64 0, .string ⟨#[]⟩, .slice none 0 0] 110)).drew
          have hR4 : CAt (wr.alloc (.cells #[.int .i64 0, .int .i64 0, .float .f64 0, .string ⟨#[]⟩, .slice none 0 0] 110)).drew r (some ad) bl c at_ := Blk.drew (Blk.alloc Q.hR (.cells #[.int .i64 0, .int .i64 0, .float .f64 0, .string ⟨#[]⟩, .slice none 0 0] 110))
          have hu4 := (Q.hu.alloc (.cells #[.int .i64 0, .int .i64 0, .float .f64 0, .string ⟨#[]⟩, .slice none 0 0] 110)).drew
          have hu40 : Upd (fun x => x = r) wr (wr.alloc (.cells #[.int .i64 0, .int .i64 0, .float .f64 0, .string ⟨#[]⟩, .slice none 0 0] 110)).drew := ((Upd.refl (fun x => x = r) wr).alloc (.cells #[.int .i64 0, .int .i64 0, .float .f64 0, .string ⟨#[]⟩, .slice none 0 0] 110)).drew
          have hlz := (Blk.new wr 110 #[.int .i64 0, .int .i64 0, .float .f64 0, .string ⟨#[]⟩, .slice none 0 0]).drew
          have hs4 : (wr.alloc (.cells #[.int .i64 0, .int .i64 0, .float .f64 0, .string ⟨#[]⟩, .slice none 0 0] 110)).drew.heap.size = wr.heap.size + 1 := by simp
          have own4 : Own (wr.alloc (.cells #[.int .i64 0, .int .i64 0, .float .f64 0, .string ⟨#[]⟩, .slice none 0 0] 110)).drew 110 5 A1 vs.length cc xs1 := (Q.row.ho.alloc (.cells #[.int .i64 0, .int .i64 0, .float .f64 0, .string ⟨#[]⟩, .slice none 0 0] 110))
          refine hK _ _ _ (fun _ h => h) ⟨ho4.cell 5, hp4.cell 0⟩ ?_
          clear hK K hS
          generalize (wr.alloc (.cells #[.int .i64 0, .int .i64 0, .float .f64 0, .string ⟨#[]⟩, .slice none 0 0] 110)).drew = w4 at *
          try simp only [Act.put, List.setIfInBounds_toArray, List.set_cons_zero, List.set_cons_succ]
          repeat (first | (refine planG_take _ ?_ rfl rfl rfl rfl (fun _ => ?_) ?_; rotate_left; (focus (go_simp; with_reducible rfl)); try simp only [Act.put, List.setIfInBounds_toArray, List.set_cons_zero, List.set_cons_succ]) | (refine planG_held _ ?_ rfl rfl rfl rfl (by assumption) (fun _ hSw => ?_) ?_; rotate_left; (focus ((try dsimp only at hSw); go_simp; with_reducible rfl)); try simp only [Act.put, List.setIfInBounds_toArray, List.set_cons_zero, List.set_cons_succ]) | (refine planG_skip _ rfl rfl (by assumption) ?_; try simp only [Act.put, List.setIfInBounds_toArray, List.set_cons_zero, List.set_cons_succ]))
          refine planG_now _ rfl rfl rfl (fun K hK => ?_)
          go_wp2_with fail
          refine (hcall.out w4 hR4 hu4).mono ?_
          rintro e w6 ⟨cs, rfl, hv5, hR6, hu5⟩
          dsimp only
          have hcs5 := hv5.size
          have hone' := hv5.one
          obtain ⟨a0, a1, a2, a3, a4, rfl⟩ : ∃ a0 a1 a2 a3 a4, cs = #[a0, a1, a2, a3, a4] := by
            match cs, hcs5 with
            | ⟨[a0, a1, a2, a3, a4]⟩, _ => exact ⟨a0, a1, a2, a3, a4, rfl⟩
          have hone := hone'
          have hrwr := Blk.lt Q.hR
          have ho6 := ho4.upd hu5 (fun e => hor e)
          have hp6 := hp4.upd hu5 (fun e => hpr e)
          have hlz6 := hlz.upd hu5 (fun e => by omega)
          have hv6 : VOwn w6 (fun g => wr.heap.size < g ∧ g < w6.heap.size) v #[a0, a1, a2, a3, a4] := hv5.mono (fun g hg h => ⟨by have h9 : w4.heap.size ≤ g := h; omega, hg⟩)
          have own6 := own4.upd hu5 (fun g hg e => by have := Q.row.hA g hg; omega)
          rw [hvl] at own6
          have hsrc := lit_reads hlz6
          have hu0 := hu40.trans hu5 (fun _ _ h => h)
          have hu6 := Q.hu.trans (hu0.mono (T := fun x => x = r ∨ x = ob) (fun _ _ h => .inl h)) (fun _ _ h => h)
          refine hK _ _ _ (fun _ h => h) ⟨ho6.cell 5, hp6.cell 0⟩ ?_
          clear hK K hv5 hone' hcs5 ho4 hp4 own4 hlz hlz6 hu4 hu40 hu5 hR4
          try simp only [Act.put, List.setIfInBounds_toArray, List.set_cons_zero, List.set_cons_succ]
          repeat (first | (refine planG_take _ ?_ rfl rfl rfl rfl (fun _ => ?_) ?_; rotate_left; (focus (go_simp; with_reducible rfl)); try simp only [Act.put, List.setIfInBounds_toArray, List.set_cons_zero, List.set_cons_succ]) | (refine planG_held _ ?_ rfl rfl rfl rfl (by assumption) (fun _ hSw => ?_) ?_; rotate_left; (focus ((try dsimp only at hSw); go_simp; with_reducible rfl)); try simp only [Act.put, List.setIfInBounds_toArray, List.set_cons_zero, List.set_cons_succ]) | (refine planG_skip _ rfl rfl (by assumption) ?_; try simp only [Act.put, List.setIfInBounds_toArray, List.set_cons_zero, List.set_cons_succ]))
          refine planG_now _ rfl rfl rfl (fun K hK => ?_)
          refine wp_append_mine _ _ 28 28 rfl 110 i1 _ 5 64 Try.underlying28 gi gz0 gz1 gz2 rfl rfl own6 rfl (Src.ofReads Try.underlying28 _ hsrc (by intro u hu; simp at hu; rcases hu with rfl | rfl | rfl | rfl | rfl <;> rfl)) (by unfold maxLen; omega) (by omega) (fun A8 c8 w8 ho8 hg8 hat8 => ?_)
          have hA1 : ∀ g, bOf A1 = some g → w.heap.size ≤ g := Q.row.hA
          have hA8 : ∀ g, bOf A8 = some g → w.heap.size ≤ g := fun g hg => by
            rcases hat8 with h | h
            · rw [h] at hg; exact hA1 g hg
            · rw [h] at hg; cases hg; exact hu6.size
          obtain ⟨g8, rfl⟩ : ∃ g8, A8 = some ⟨g8, 0, none⟩ := by
            rcases ho8.2 with ⟨h1, _⟩ | ⟨g8, _, h1, _⟩
            · omega
            · exact ⟨g8, h1⟩
          have hg8w := hA8 g8 rfl
          obtain ⟨hel, hth⟩ := own_last (news := [a0, a1, a2, a3, a4]) ho8 (by rw [Q.row.ho.1, hvl]) rfl rfl
          have ho8b := ho6.grown hg8 (fun e => by have := hA1 _ e.symm; omega)
          have hp8b := hp6.grown hg8 (fun e => by have := hA1 _ e.symm; omega)
          have hR8b : CAt w8 r (some ad) bl c (at_ + q) := Blk.grown hR6 hg8 (fun e => by have := hA1 _ e.symm; omega)
          have hv8 := hv6.upd ((Upd.refl (fun x => some x = bOf A1) w6).grown hg8 (fun k hk _ => hk.symm)) (fun g hg e => by have := Q.row.ho.lt e.symm; omega)
          have hne8 : ∀ g, wr.heap.size < g ∧ g < w6.heap.size → g ≠ g8 := fun g hg e => by
            subst e
            rcases hat8 with h | h
            · exact absurd (show g < wr.heap.size from Q.row.ho.lt h.symm) (by omega)
            · have h9 : (some g : Option Nat) = some w6.heap.size := h
              cases h9; omega
          refine hK _ _ _ (fun _ h => h) ⟨ho8b.cell 5, hp8b.cell 0⟩ ?_
          clear hK K own6 hsrc ho6 hp6 hR6 hv6 hu6
          try simp only [Act.put, List.setIfInBounds_toArray, List.set_cons_zero, List.set_cons_succ]
          have hjj : (j : Int) < (j : Int) + 1 := by omega
          repeat (first | (refine planG_take _ ?_ rfl rfl rfl rfl (fun _ => ?_) ?_; rotate_left; (focus (go_simp; with_reducible rfl)); try simp only [Act.put, List.setIfInBounds_toArray, List.set_cons_zero, List.set_cons_succ]) | (refine planG_held _ ?_ rfl rfl rfl rfl (by assumption) (fun _ hSw => ?_) ?_; rotate_left; (focus ((try dsimp only at hSw); go_simp; with_reducible rfl)); try simp only [Act.put, List.setIfInBounds_toArray, List.set_cons_zero, List.set_cons_succ]) | (refine planG_skip _ rfl rfl (by assumption) ?_; try simp only [Act.put, List.setIfInBounds_toArray, List.set_cons_zero, List.set_cons_succ]))
          clear hjj
          refine planG_two rfl rfl ?_ ?_
          · refine planG_nowF _ rfl rfl rfl (by kernel_rfl) (fun K hK => ?_)
            refine wp_store_mid 110 (Operand.tmp 27) (Operand.tmp 23) rfl g8 (j * 5) #[a0, a1, a2, a3, a4] (by simp [go_sem, add_row]) (by simp [go_sem]) hth (by kernel_rfl) (by simpa using hone) ?_
            refine hK _ _ ?_
            clear hK K
            have hu9 : Upd (fun x => x = g8) w8 (w8.setCells g8 (j * 5) [a0, a1, a2, a3, a4]) := by
              obtain ⟨s1, s2, s3, s4⟩ := setCells_same g8 (j * 5) [a0, a1, a2, a3, a4] w8
              exact ⟨s1, s2, s3, by omega, fun k _ hk => setCells_other g8 _ k hk _ w8⟩
            have ho9 := ho8b.upd hu9 (fun e => by omega)
            have hp9 := hp8b.upd hu9 (fun e => by omega)
            have hR9 : CAt (w8.setCells g8 (j * 5) [a0, a1, a2, a3, a4]) r (some ad) bl c (at_ + q) := Blk.upd hR8b hu9 (fun e => by omega)
            have hv9 := hv8.upd hu9 (fun g hg e => hne8 g hg e)
            generalize w8.setCells g8 (j * 5) [a0, a1, a2, a3, a4] = w9 at *
            try simp only [Act.put, List.setIfInBounds_toArray, List.set_cons_zero, List.set_cons_succ]
            refine planG_nowF _ rfl rfl rfl (by kernel_rfl) (fun K hK => ?_)
            have y5 := ho9.cell 5
            have yf := ho9.frozen 5
            go_simp
            refine hK _ _ ?_
            clear hK K
            refine planG_nil ?_
            have hu9b := (Upd.refl (fun x => x = ob) w9).setCell (p := ⟨ob, 5, none⟩) (fun _ => rfl) (.slice (some ⟨g8, 0, none⟩) (j + 1) c8)
            have hu10 : Upd (fun x => x = g8 ∨ x = ob) w8 (w9.setCell ⟨ob, 5, none⟩ (.slice (some ⟨g8, 0, none⟩) (j + 1) c8)) := (hu9.mono (T := fun x => x = g8 ∨ x = ob) (fun _ _ h => .inl h)).trans hu9b (fun _ _ h => .inr h)
            have hR10 := (show Blk w9 r _ _ from hR9).far (p := ⟨ob, 5, none⟩) (show r ≠ ob from fun e => hor e.symm) (.slice (some ⟨g8, 0, none⟩) (j + 1) c8)
            have hp10 := hp9.far (p := ⟨ob, 5, none⟩) (show pb ≠ ob from hpo) (.slice (some ⟨g8, 0, none⟩) (j + 1) c8)
            have ho10 := ho9.set_ 5 (.slice (some ⟨g8, 0, none⟩) (j + 1) c8)
            have hel10 := hel.upd hu9b (fun g hg e => by have h9 : w.heap.size ≤ g := hA8 g hg; omega)
            have hv10 := hv9.upd hu9b (fun g hg e => by omega)
            clear hel hth hu9 ho9 hp9 hR9 hv9 y5 yf hu9b ho8b hp8b hR8b hv8 ho8 hone
            have huall : Upd (fun x => (x = r ∨ x = ob) ∨ some x = bOf A1) wr (w9.setCell ⟨ob, 5, none⟩ (.slice (some ⟨g8, 0, none⟩) (j + 1) c8)) := by
              refine ((((hu0.mono (T := fun x => (x = r ∨ x = ob) ∨ some x = bOf A1) (fun _ _ h => .inl (.inl h))).grown hg8 (fun k hk _ => .inr hk.symm)).trans hu10 (fun i hi e => ?_)))
              rcases e with e | e
              · subst e
                rcases hat8 with h | h
                · exact .inr h
                · have h9 : (some i : Option Nat) = some w6.heap.size := h
                  cases h9
                  have := hu0.size
                  omega
              · exact .inl (.inr e)
            have hnew : ArgRel w (w9.setCell ⟨ob, 5, none⟩ (.slice (some ⟨g8, 0, none⟩) (j + 1) c8)) r pb ob ad b bl c c1 s1 n1 g m gg mm kk R (j + 1) (at_ + q) (vs ++ [v]) (some ⟨g8, 0, none⟩) c8 (xs1 ++ (#[a0, a1, a2, a3, a4] : Array Value).toList) (fun k => if k = vs.length then #[a0, a1, a2, a3, a4] else css1 k) := by
              refine ⟨by omega, by rw [List.length_append, Q.vl]; rfl, hatq, hR10, hp10, ho10, Q.row.push2 (cs := #[a0, a1, a2, a3, a4]) (T := fun x => x = r ∨ x = ob) ?_ hA8 huall (fun g hg => by rcases hg with h | h <;> omega) ?_ ?_, (Q.hu.trans huall (fun i hi e => ?_)), Lib.hid hfn.out⟩
              · rw [Q.vl]
                exact hel10
              · rcases hat8 with h | h
                · exact .inl h
                · exact .inr (fun g hg => by rw [h] at hg; cases hg; have := hu0.size; omega)
              · exact hv10.mono (fun g _ hg => ⟨by omega, fun e => hne8 g hg (by cases e; rfl)⟩)
              · rcases e with e | e
                · exact e
                · have := hA1 i e.symm; omega
            replace hnew := Lib.hid hnew
            clear Q hv10 hu0 hg8 hat8 hu10 huall hne8 hR10 hp10 ho10 hel10
            go_wp2_with fail
            go_roundw
            case rel => exact ⟨j + 1, at_ + q, vs ++ [v], _, c8, _, _, by simp, hnew.out⟩
            case measure => simp [intOf]; omega
          · refine planG_nowF _ rfl rfl rfl (by kernel_rfl) (fun K hK => ?_)
            have y5 := ho8b.cell 5
            have yf := ho8b.frozen 5
            go_simp
            refine hK _ _ ?_
            clear hK K
            have hu9 := (Upd.refl (fun x => x = ob) w8).setCell (p := ⟨ob, 5, none⟩) (fun _ => rfl) (.slice (some ⟨g8, 0, none⟩) (j + 1) c8)
            have hR9 : CAt (w8.setCell ⟨ob, 5, none⟩ (.slice (some ⟨g8, 0, none⟩) (j + 1) c8)) r (some ad) bl c (at_ + q) := (show Blk w8 r _ _ from hR8b).far (p := ⟨ob, 5, none⟩) (show r ≠ ob from fun e => hor e.symm) (.slice (some ⟨g8, 0, none⟩) (j + 1) c8)
            have hp9 := hp8b.far (p := ⟨ob, 5, none⟩) (show pb ≠ ob from hpo) (.slice (some ⟨g8, 0, none⟩) (j + 1) c8)
            have ho9 := ho8b.set_ 5 (.slice (some ⟨g8, 0, none⟩) (j + 1) c8)
            have hv9 := hv8.upd hu9 (fun g hg e => by omega)
            have ho89 := ho8.upd hu9 (fun g hg e => by have h9 : w.heap.size ≤ g := hA8 g hg; omega)
            obtain ⟨hel9, hth9⟩ := own_last (news := [a0, a1, a2, a3, a4]) ho89 (by rw [Q.row.ho.1, hvl]) rfl rfl
            generalize w8.setCell ⟨ob, 5, none⟩ (.slice (some ⟨g8, 0, none⟩) (j + 1) c8) = w9 at *
            try simp only [Act.put, List.setIfInBounds_toArray, List.set_cons_zero, List.set_cons_succ]
            refine planG_nowF _ rfl rfl rfl (by kernel_rfl) (fun K hK => ?_)
            refine wp_store_mid 110 (Operand.tmp 27) (Operand.tmp 23) rfl g8 (j * 5) #[a0, a1, a2, a3, a4] (by simp [go_sem, add_row]) (by simp [go_sem]) hth9 (by kernel_rfl) (by simpa using hone) ?_
            refine hK _ _ ?_
            clear hK K
            refine planG_nil ?_
            have hu9b : Upd (fun x => x = g8) w9 (w9.setCells g8 (j * 5) [a0, a1, a2, a3, a4]) := by
              obtain ⟨s1, s2, s3, s4⟩ := setCells_same g8 (j * 5) [a0, a1, a2, a3, a4] w9
              exact ⟨s1, s2, s3, by omega, fun k _ hk => setCells_other g8 _ k hk _ w9⟩
            have hu10 : Upd (fun x => x = g8 ∨ x = ob) w8 (w9.setCells g8 (j * 5) [a0, a1, a2, a3, a4]) := (hu9.mono (T := fun x => x = g8 ∨ x = ob) (fun _ _ h => .inr h)).trans hu9b (fun _ _ h => .inl h)
            have hR10 : CAt (w9.setCells g8 (j * 5) [a0, a1, a2, a3, a4]) r (some ad) bl c (at_ + q) := Blk.upd hR9 hu9b (fun e => by omega)
            have hp10 := hp9.upd hu9b (fun e => by omega)
            have ho10 := ho9.upd hu9b (fun e => by omega)
            have hel10 := hel9
            have hv10 := hv9.upd hu9b (fun g hg e => hne8 g hg e)
            clear hel hth hel9 hth9 ho89 hu9 ho9 hp9 hR9 hv9 y5 yf hu9b ho8b hp8b hR8b hv8 ho8 hone
            have huall : Upd (fun x => (x = r ∨ x = ob) ∨ some x = bOf A1) wr (w9.setCells g8 (j * 5) [a0, a1, a2, a3, a4]) := by
              refine ((((hu0.mono (T := fun x => (x = r ∨ x = ob) ∨ some x = bOf A1) (fun _ _ h => .inl (.inl h))).grown hg8 (fun k hk _ => .inr hk.symm)).trans hu10 (fun i hi e => ?_)))
              rcases e with e | e
              · subst e
                rcases hat8 with h | h
                · exact .inr h
                · have h9 : (some i : Option Nat) = some w6.heap.size := h
                  cases h9
                  have := hu0.size
                  omega
              · exact .inl (.inr e)
            have hnew : ArgRel w (w9.setCells g8 (j * 5) [a0, a1, a2, a3, a4]) r pb ob ad b bl c c1 s1 n1 g m gg mm kk R (j + 1) (at_ + q) (vs ++ [v]) (some ⟨g8, 0, none⟩) c8 (xs1 ++ (#[a0, a1, a2, a3, a4] : Array Value).toList) (fun k => if k = vs.length then #[a0, a1, a2, a3, a4] else css1 k) := by
              refine ⟨by omega, by rw [List.length_append, Q.vl]; rfl, hatq, hR10, hp10, ho10, Q.row.push2 (cs := #[a0, a1, a2, a3, a4]) (T := fun x => x = r ∨ x = ob) ?_ hA8 huall (fun g hg => by rcases hg with h | h <;> omega) ?_ ?_, (Q.hu.trans huall (fun i hi e => ?_)), Lib.hid hfn.out⟩
              · rw [Q.vl]
                exact hel10
              · rcases hat8 with h | h
                · exact .inl h
                · exact .inr (fun g hg => by rw [h] at hg; cases hg; have := hu0.size; omega)
              · exact hv10.mono (fun g _ hg => ⟨by omega, fun e => hne8 g hg (by cases e; rfl)⟩)
              · rcases e with e | e
                · exact e
                · have := hA1 i e.symm; omega
            replace hnew := Lib.hid hnew
            clear Q hv10 hu0 hg8 hat8 hu10 huall hne8 hR10 hp10 ho10 hel10
            go_wp2_with fail
            go_roundw
            case rel => exact ⟨j + 1, at_ + q, vs ++ [v], _, c8, _, _, by simp, hnew.out⟩
            case measure => simp [intOf]; omega
    · have hj' : j = kk := by have := Q.jl; omega
      subst hj'
      have hd : decide ((j : Int) < (j : Int)) = false := decide_eq_false (by omega)
      have hRs : R = some (⟨c1, s1, n1, g, m, vs⟩, at_) := by
        rw [← Q.hf.out, Nat.sub_self]
        show some _ = some _
        rw [List.append_nil, Nat.add_zero]
      subst hRs
      have hov := Q.ho
      rw [← hgg.out, ← hmm.out, ← Q.vl] at hov
      have hfin : ClRes w r ob (some ad) bl c (some (⟨c1, s1, n1, g, m, vs⟩, at_)) (.returned (.tuple #[])) wr := ⟨rfl, Q.hR, ⟨A1, cc, xs1, css1, hov, Q.row⟩, Q.hu⟩
      replace hfin := Lib.hid hfin
      clear Q hov
      go_wp2_with fail
      go_end0
      exact hfin.out
end Go.Proofs.Ytjljlgkghlphnaa
