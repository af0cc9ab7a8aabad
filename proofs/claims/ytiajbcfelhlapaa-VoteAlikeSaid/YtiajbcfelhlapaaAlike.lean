/- Replies with flat values: Clone, Alike. -/
import Derived.Test.YtiajbcfelhlapaaOrder
import Derived.Test.YtiajbcfelhlapaaProgClean
namespace Go.Proofs.Ytiajbcfelhlapaa
open Go.RowKit

/-- A flat value, as Clean leaves it. -/
def FlatC (k i : Int) (f : Nat) : Prop := (k = 0 ∧ i = 0 ∧ f = 0) ∨ (k = 1 ∧ f = 0) ∨ (k = 2 ∧ i = 0 ∧ f = nanBits)
theorem FlatC.flat {k i : Int} {f : Nat} (h : FlatC k i f) : FlatV k f := by
  rcases h with ⟨h, _, _⟩ | ⟨h, _⟩ | ⟨h, _, h'⟩
  · exact .inl h
  · exact .inr (.inl h)
  · exact .inr (.inr ⟨h, h'⟩)
theorem cb_nan : cb nanBits = nanBits := by decide +kernel

theorem clean_flat (k i : Int) (f : Nat) (w1 : World) (h : FlatC k i f) : Calls Try.prog 45 #[.agg #[.int .i64 k, .int .i64 i, .float .f64 f, .string ⟨#[]⟩, .slice none 0 0]] w1 (Says w1 (.agg #[.int .i64 k, .int .i64 i, .float .f64 f, .string ⟨#[]⟩, .slice none 0 0])) := by
  have hS := (Below.refl w1.heap.size w1).alloc (Nat.le_refl _) (.cells #[.int .i64 k, .int .i64 i, .float .f64 f, .string ⟨#[]⟩, .slice none 0 0] 30)
  have hb4 := hS.alloc hS.size (.cells #[.int .i64 0, .int .i64 0, .float .f64 0, .string ⟨#[]⟩, .slice none 0 0] 30)
  have hz3 := Blk.new (w1.alloc (.cells #[.int .i64 k, .int .i64 i, .float .f64 f, .string ⟨#[]⟩, .slice none 0 0] 30)) 30 #[.int .i64 0, .int .i64 0, .float .f64 0, .string ⟨#[]⟩, .slice none 0 0]
  have hsz : (w1.alloc (.cells #[.int .i64 k, .int .i64 i, .float .f64 f, .string ⟨#[]⟩, .slice none 0 0] 30)).heap.size = w1.heap.size + 1 := by simp
  rw [hsz] at hz3
  clear hS hsz
  rcases h with ⟨h1, h2, h3⟩ | ⟨h1, h3⟩ | ⟨h1, h2, h3⟩
  · subst h1 h2 h3
    go_enter Try.func45, Try.ntmps45
    have hz4 := hz3.row #[.int .i64 0, .int .i64 0, .float .f64 0, .string ⟨#[]⟩, .slice none 0 0]
    have hb5 := below_row hb4 (g := w1.heap.size + 1) (by omega) #[.int .i64 0, .int .i64 0, .float .f64 0, .string ⟨#[]⟩, .slice none 0 0]
    go_wp2_with (refine store_row_gen rfl 30 (Operand.tmp 2) _ rfl (w1.heap.size + 1) #[.int .i64 0, .int .i64 0, .float .f64 0, .string ⟨#[]⟩, .slice none 0 0] (by simp [go_sem]) (by simp [go_sem]) 30 _ hz3 (by kernel_rfl) rfl (by simp [Value.oneCell']) (fun w6 hw6 => ?_); rw [← hw6] at hz4 hb5; clear hw6)
    refine bodyPost_ret (v := .agg #[.int .i64 0, .int .i64 0, .float .f64 0, .string ⟨#[]⟩, .slice none 0 0]) ?hr rfl ?_
    case hr => exact results_cell_row rfl _ _ (w1.heap.size + 1) 30 _ (0, 0) _ rfl hz4 Try.underlying30 rfl (by kernel_rfl)
    exact ⟨rfl, hb5⟩
  · subst h1 h3
    go_enter Try.func45, Try.ntmps45
    have hz4 := hz3.row #[.int .i64 1, .int .i64 i, .float .f64 0, .string ⟨#[]⟩, .slice none 0 0]
    have hb5 := below_row hb4 (g := w1.heap.size + 1) (by omega) #[.int .i64 1, .int .i64 i, .float .f64 0, .string ⟨#[]⟩, .slice none 0 0]
    go_wp2_with (refine store_row_gen rfl 30 (Operand.tmp 2) _ rfl (w1.heap.size + 1) #[.int .i64 1, .int .i64 i, .float .f64 0, .string ⟨#[]⟩, .slice none 0 0] (by simp [go_sem]) (by simp [go_sem]) 30 _ hz3 (by kernel_rfl) rfl (by simp [Value.oneCell']) (fun w6 hw6 => ?_); rw [← hw6] at hz4 hb5; clear hw6)
    refine bodyPost_ret (v := .agg #[.int .i64 1, .int .i64 i, .float .f64 0, .string ⟨#[]⟩, .slice none 0 0]) ?hr rfl ?_
    case hr => exact results_cell_row rfl _ _ (w1.heap.size + 1) 30 _ (0, 0) _ rfl hz4 Try.underlying30 rfl (by kernel_rfl)
    exact ⟨rfl, hb5⟩
  · subst h1 h2 h3
    have hc := fun w => num_canon nanBits w
    rw [cb_nan] at hc
    generalize nanBits = y at *
    go_enter Try.func45, Try.ntmps45
    go_wp2_with fail
    refine (hc _).mono ?_
    rintro e w3 ⟨rfl, rfl⟩
    dsimp only
    have hz4 := hz3.row #[.int .i64 2, .int .i64 0, .float .f64 y, .string ⟨#[]⟩, .slice none 0 0]
    have hb5 := below_row hb4 (g := w1.heap.size + 1) (by omega) #[.int .i64 2, .int .i64 0, .float .f64 y, .string ⟨#[]⟩, .slice none 0 0]
    go_wp2_with (refine store_row_gen rfl 30 (Operand.tmp 2) _ rfl (w1.heap.size + 1) #[.int .i64 2, .int .i64 0, .float .f64 y, .string ⟨#[]⟩, .slice none 0 0] (by simp [go_sem]) (by simp [go_sem]) 30 _ hz3 (by kernel_rfl) rfl (by simp [Value.oneCell']) (fun w6 hw6 => ?_); rw [← hw6] at hz4 hb5; clear hw6)
    refine bodyPost_ret (v := .agg #[.int .i64 2, .int .i64 0, .float .f64 y, .string ⟨#[]⟩, .slice none 0 0]) ?hr rfl ?_
    case hr => exact results_cell_row rfl _ _ (w1.heap.size + 1) 30 _ (0, 0) _ rfl hz4 Try.underlying30 rfl (by kernel_rfl)
    exact ⟨rfl, hb5⟩

theorem clone_flat (k i : Int) (f : Nat) (w1 : World) (h : FlatC k i f) : Calls Try.prog 30 #[.agg #[.int .i64 k, .int .i64 i, .float .f64 f, .string ⟨#[]⟩, .slice none 0 0]] w1 (Says w1 (.agg #[.int .i64 k, .int .i64 i, .float .f64 f, .string ⟨#[]⟩, .slice none 0 0])) := by
  have hcl := fun w2 => clean_flat k i f w2 h
  have hS := (Below.refl w1.heap.size w1).alloc (Nat.le_refl _) (.cells #[.int .i64 k, .int .i64 i, .float .f64 f, .string ⟨#[]⟩, .slice none 0 0] 30)
  have hb4 := hS.alloc hS.size (.cells #[.int .i64 0, .int .i64 0, .float .f64 0, .string ⟨#[]⟩, .slice none 0 0] 30)
  have hz3 := Blk.new (w1.alloc (.cells #[.int .i64 k, .int .i64 i, .float .f64 f, .string ⟨#[]⟩, .slice none 0 0] 30)) 30 #[.int .i64 0, .int .i64 0, .float .f64 0, .string ⟨#[]⟩, .slice none 0 0]
  have hsz : (w1.alloc (.cells #[.int .i64 k, .int .i64 i, .float .f64 f, .string ⟨#[]⟩, .slice none 0 0] 30)).heap.size = w1.heap.size + 1 := by simp
  rw [hsz] at hz3
  replace hcl := Lib.hid hcl
  clear hS hsz h
  go_enter Try.func30, Try.ntmps30
  go_wp2_with fail
  refine (hcl.out _).mono ?_
  rintro e w3 ⟨rfl, hb3⟩
  dsimp only
  have hz3' := hz3.below hb3 hz3.lt
  have hb4' := below_then hb3 hb4
  have hz4 := hz3'.row #[.int .i64 k, .int .i64 i, .float .f64 f, .string ⟨#[]⟩, .slice none 0 0]
  have hb5 := below_row hb4' (g := w1.heap.size + 1) (by omega) #[.int .i64 k, .int .i64 i, .float .f64 f, .string ⟨#[]⟩, .slice none 0 0]
  clear hb3 hz3 hb4
  go_wp2_with (refine store_row_gen rfl 30 (Operand.tmp 2) _ rfl (w1.heap.size + 1) #[.int .i64 k, .int .i64 i, .float .f64 f, .string ⟨#[]⟩, .slice none 0 0] rfl rfl 30 _ hz3' (by kernel_rfl) rfl (by simp [Value.oneCell']) (fun w6 hw6 => ?_); rw [← hw6] at hz4 hb5; clear hw6)
  refine bodyPost_ret (v := .agg #[.int .i64 k, .int .i64 i, .float .f64 f, .string ⟨#[]⟩, .slice none 0 0]) ?hr rfl ?_
  case hr => exact results_cell_row rfl _ _ (w1.heap.size + 1) 30 _ (0, 0) _ rfl hz4 Try.underlying30 rfl (by kernel_rfl)
  exact ⟨rfl, hb5⟩

/-- Are flat replies to one call alike? -/
def alikeF (e1 k1 i1 e2 k2 i2 : Int) : Bool := decide (e1 = e2) && decide (ordF k1 i1 k2 i2 = 0)

theorem alike_flat (c s n e1 k1 i1 e2 k2 i2 : Int) (f1 f2 : Nat) (w : World) (h1 : FlatV k1 f1) (h2 : FlatV k2 f2) :
    Calls Try.prog 10 #[.agg #[.int .u32 c, .int .u32 s, .int .u16 n, .int .i64 e1, .int .i64 k1, .int .i64 i1, .float .f64 f1, .string ⟨#[]⟩, .slice none 0 0], .agg #[.int .u32 c, .int .u32 s, .int .u16 n, .int .i64 e2, .int .i64 k2, .int .i64 i2, .float .f64 f2, .string ⟨#[]⟩, .slice none 0 0]] w (Says w (.bool (alikeF e1 k1 i1 e2 k2 i2))) := by
  have b1 := Blk.new w 32 #[.int .u32 c, .int .u32 s, .int .u16 n, .int .i64 e1, .int .i64 k1, .int .i64 i1, .float .f64 f1, .string ⟨#[]⟩, .slice none 0 0]
  have b1' := b1.alloc (.cells #[.int .u32 c, .int .u32 s, .int .u16 n, .int .i64 e2, .int .i64 k2, .int .i64 i2, .float .f64 f2, .string ⟨#[]⟩, .slice none 0 0] 32)
  have b2 := Blk.new (w.alloc (.cells #[.int .u32 c, .int .u32 s, .int .u16 n, .int .i64 e1, .int .i64 k1, .int .i64 i1, .float .f64 f1, .string ⟨#[]⟩, .slice none 0 0] 32)) 32 #[.int .u32 c, .int .u32 s, .int .u16 n, .int .i64 e2, .int .i64 k2, .int .i64 i2, .float .f64 f2, .string ⟨#[]⟩, .slice none 0 0]
  have hsz : (w.alloc (.cells #[.int .u32 c, .int .u32 s, .int .u16 n, .int .i64 e1, .int .i64 k1, .int .i64 i1, .float .f64 f1, .string ⟨#[]⟩, .slice none 0 0] 32)).heap.size = w.heap.size + 1 := by simp
  rw [hsz] at b2
  have hbl := ((Below.refl w.heap.size w).alloc (Nat.le_refl _) (.cells #[.int .u32 c, .int .u32 s, .int .u16 n, .int .i64 e1, .int .i64 k1, .int .i64 i1, .float .f64 f1, .string ⟨#[]⟩, .slice none 0 0] 32)).alloc (by simp) (.cells #[.int .u32 c, .int .u32 s, .int .u16 n, .int .i64 e2, .int .i64 k2, .int .i64 i2, .float .f64 f2, .string ⟨#[]⟩, .slice none 0 0] 32)
  obtain ⟨r, hr⟩ : ∃ r, alikeF e1 k1 i1 e2 k2 i2 = r := ⟨_, rfl⟩
  rw [hr]
  obtain ⟨o, ho⟩ : ∃ o, ordF k1 i1 k2 i2 = o := ⟨_, rfl⟩
  have hord := fun w2 => order_flat k1 i1 k2 i2 f1 f2 ⟨#[]⟩ ⟨#[]⟩ none none 0 0 0 0 w2 h1 h2
  rw [ho] at hord
  unfold alikeF at hr
  rw [ho] at hr
  replace hr := Lib.hid hr
  clear ho h1 h2 b1 hsz
  by_cases he : e1 = e2
  · subst he
    go_enter Try.func10, Try.ntmps10
    go_wp2_with fail
    refine (hord _).mono ?_
    rintro e w3 ⟨rfl, hb3⟩
    dsimp only
    have hfin := below_then hb3 hbl
    by_cases h0 : o = 0
    · have hr' : r = true := by rw [← hr.out]; simp [h0]
      subst h0 hr'
      go_wp2_with fail
      go_ret
      exact ⟨rfl, hfin⟩
    · have hr' : r = false := by rw [← hr.out]; simp [h0]
      have h0' : (o == 0) = false := beq_eq_false_iff_ne.2 h0
      subst hr'
      go_wp2_with fail
      go_ret
      exact ⟨rfl, hfin⟩
  · have hr' : r = false := by rw [← hr.out]; simp [he]
    have he' : (e1 == e2) = false := beq_eq_false_iff_ne.2 he
    subst hr'
    go_enter Try.func10, Try.ntmps10
    go_wp2_with fail
    go_ret
    exact ⟨rfl, hbl⟩
end Go.Proofs.Ytiajbcfelhlapaa
