/- wire.Read and choirref3.Read at any bytes: both tell the same. -/
import Derived.Test.YtafogjonicdbmaaReads
import Derived.Test.YtafogjonicdbmaaSame
namespace Go.Proofs.Ytafogjonicdbmaa
open Go.RowKit

def RdRes (w : World) (o : Option (Val × Nat)) (e : Ending) (w' : World) : Prop :=
  match o with
  | some (v, m) => ∃ cs, e = .returned (.tuple #[.agg cs, .int .i64 (m : Int), .int .i64 0]) ∧ VOwn w' (fun g => w.heap.size ≤ g) v cs ∧ Below w.heap.size w w'
  | none => e = .returned (.tuple #[.agg #[.int .i64 0, .int .i64 0, .float .f64 0, .string ⟨#[]⟩, .slice none 0 0], .int .i64 0, .int .i64 20]) ∧ Below w.heap.size w w'

theorem value_end0 {r : Nat} {deep : Int} {w : World} (h : RdAt w r none 0 0 0 deep) :
    Calls Try.prog 35 #[.pointer (some ⟨r, 0, none⟩)] w (fun e w' => e = .panicked shortP ∧ Upd (fun x => x = r) w w') := by
  go_enter Try.func35, Try.ntmps35
  go_wp2_with fail
  refine (number_no (k := 1) (Blk.alloc h _) (fun _ => rfl) (Nat.le_refl _) (by omega) (by omega) (Nat.le_refl _) (by omega)).mono ?_
  rintro e w1 ⟨rfl, hb1⟩
  dsimp only
  go_wp2_with fail
  exact ⟨rfl, rfl, ((Upd.refl _ w).alloc _).trans ((Upd.refl _ _).thenBelow hb1 (Nat.le_refl _)) (fun _ _ h => h)⟩

theorem wire_read_all {A : Option Addr} {c : Nat} {b : List UInt8} {w : World} (h : Reads w w.heap.size 1 A b.length (bys b)) (hA : A = none → c = 0) (hc : b.length ≤ c) (hl : b.length ≤ 1000000000) (o : Option (Val × Nat)) (ho : pv 8 b = o) (hsz : ∀ v m, o = some (v, m) → m ≤ 4096) :
    Calls Try.prog 13 #[.slice A b.length c] w (RdRes w o) := by
  cases A with
  | none =>
    have hc0 := hA rfl
    subst hc0
    have hb : b = [] := List.eq_nil_of_length_eq_zero (by omega)
    subst hb
    have ho' : o = none := by rw [← ho]; rfl
    rw [ho']
    exact read_short (fun w1 hb hr => value_end0 hr)
  | some ad =>
    have hva := fun (w1 : World) (hb : Below w.heap.size w w1) (hr : RdAt w1 (w.heap.size + 1 + 1 + 1) (some ad) b.length c 0 8) =>
      value_all (r := w.heap.size + 1 + 1 + 1) (B := w.heap.size) (by omega) hc hl 8 (by omega) w1 0 hr (h.below hb) (Nat.zero_le _)
    cases o with
    | some x =>
      obtain ⟨v, m⟩ := x
      obtain ⟨hk, hs⟩ := pv_check ho (hsz v m rfl)
      refine read_tree (at_ := m) (v := v) (deep := 8) hk hs (fun w1 hb hr => ?_)
      have hv := hva w1 hb hr
      rw [List.drop_zero, ho] at hv
      refine hv.mono ?_
      rintro e w' ⟨cs, rfl, h1, h2, h3⟩
      rw [Nat.zero_add] at h2
      exact ⟨cs, rfl, h1, h2, h3⟩
    | none =>
      refine read_short (fun w1 hb hr => ?_)
      have hv := hva w1 hb hr
      rw [List.drop_zero, ho] at hv
      exact hv

set_option maxHeartbeats 1600000 in
theorem ref_read_both {A : Option Addr} {c : Nat} {b : List UInt8} {w : World} (h : Reads w w.heap.size 1 A b.length (bys b)) (hc : b.length ≤ c) (hl : b.length ≤ 1000000000) (o : Option (Val × Nat)) (ho : pv 8 b = o) (hsz : ∀ v m, o = some (v, m) → m ≤ 4096) :
    Calls Try.prog 17 #[.slice A b.length c] w (RdRes w o) := by
  have hsf := fun a k x m w => run_store_float (P := Try.prog) a k x m w
  have hrd := fun (w1 : World) (hb : Below w.heap.size w w1) => ref_read_all 9 (by omega) w1 A c b ((h.below hb).more hb.size) hc hl
  rw [show (9 : Int) - ((9 : Nat) : Int) = 0 from rfl] at hrd
  obtain ⟨t1, t2⟩ := pv_two 8 b
  rw [ho] at t1 t2
  have hcase : (∃ v m, o = some (v, m) ∧ pvE 9 b = some (v, m) ∧ checkV v = 0) ∨ (o = none ∧ pvE 9 b = none) ∨ (o = none ∧ ∃ v m, pvE 9 b = some (v, m) ∧ checkV v ≠ 0) := by
    cases o with
    | some x => exact .inl ⟨x.1, x.2, rfl, t1 x.1 x.2 rfl, (pv_check ho (hsz x.1 x.2 rfl)).1⟩
    | none =>
      rcases t2 rfl with h1 | ⟨v, m, h1, h2⟩
      · exact .inr (.inl ⟨rfl, h1⟩)
      · refine .inr (.inr ⟨rfl, v, m, h1, ?_⟩)
        have h2' : greatV v 8 = true := h2
        rcases checkV_cases v with ⟨_, e⟩ | ⟨_, _, e⟩ | ⟨_, e1, _, e⟩ | ⟨_, e1, _, e⟩
        · omega
        · omega
        · omega
        · rw [h2'] at e1; cases e1
  clear t1 t2 hsz ho h
  replace hrd := Lib.hid hrd
  have hz := Blk.new w 26 #[.int .i64 0, .int .i64 0, .float .f64 0, .string ⟨#[]⟩, .slice none 0 0]
  have hb4 := (Below.refl w.heap.size w).alloc (Nat.le_refl _) (.cells #[.int .i64 0, .int .i64 0, .float .f64 0, .string ⟨#[]⟩, .slice none 0 0] 26)
  have hr1 := hrd.out _ hb4
  replace hb4 := Lib.hid hb4
  replace hz := Lib.hid hz
  go_enter Try.func17, Try.ntmps17
  go_wp2_with fail
  refine hr1.mono ?_
  clear hr1 hrd
  replace hb4 := hb4.out
  replace hz := hz.out
  generalize hw2 : w.alloc (.cells #[.int .i64 0, .int .i64 0, .float .f64 0, .string ⟨#[]⟩, .slice none 0 0] 26) = w2 at *
  replace hw2 := Lib.hid hw2
  rcases hcase with ⟨v, m, rfl, h1, hk⟩ | ⟨rfl, h1⟩ | ⟨rfl, v, m, h1, hk⟩
  · rw [h1]
    rintro e w6 ⟨cs, rfl, hv, hb6⟩
    dsimp only
    obtain ⟨k', i', f', s', A', n', c9, hform⟩ := hv.reads.form
    have hvr := hv.reads
    subst hform
    have hz6 := (hz.below hb6 hz.lt).alloc (.cells #[.int .i64 k', .int .i64 i', .float .f64 f', .string s', .slice A' n' c9] 26)
    have hb7 := (hb4.trans (hb6.mono hb4.size)).alloc (Nat.le_trans hb4.size hb6.size) (.cells #[.int .i64 k', .int .i64 i', .float .f64 f', .string s', .slice A' n' c9] 26)
    have hbv := Blk.new w6 26 #[.int .i64 k', .int .i64 i', .float .f64 f', .string s', .slice A' n' c9]
    have hv7 := hv.upd ((Upd.refl (fun _ => False) w6).alloc (.cells #[.int .i64 k', .int .i64 i', .float .f64 f', .string s', .slice A' n' c9] 26)) (fun _ _ h => h)
    have hck := ref_check hvr (w6.alloc (.cells #[.int .i64 k', .int .i64 i', .float .f64 f', .string s', .slice A' n' c9] 26)) ((Below.refl _ w6).alloc (Nat.le_refl _) _) (by simp)
    rw [hk] at hck
    have v0 := hbv.cell 0
    have v1 := hbv.cell 1
    have v2 := hbv.cell 2
    have v3 := hbv.cell 3
    have v4 := hbv.cell 4
    have hw6 : w.heap.size < w6.heap.size := Nat.lt_of_lt_of_le hz.lt hb6.size
    go_wp2_with fail
    refine hck.mono ?_
    clear hck
    rintro e w8 ⟨rfl, hb8⟩
    dsimp only
    have v0' := cell_keep hb8 v0
    have v1' := cell_keep hb8 v1
    have v2' := cell_keep hb8 v2
    have v3' := cell_keep hb8 v3
    have v4' := cell_keep hb8 v4
    have hz8 := hz6.below hb8 hz6.lt
    have hb9 := hb7.trans (hb8.mono hb7.size)
    have hv8 := hv7.upd (Upd.of_below_size (S := fun _ => False) hb8) (fun _ _ h => h)
    have hz9 := hz8.row #[.int .i64 k', .int .i64 i', .float .f64 f', .string s', .slice A' n' c9]
    have hb10 := below_row hb9 (g := w.heap.size) (Nat.le_refl _) #[.int .i64 k', .int .i64 i', .float .f64 f', .string s', .slice A' n' c9]
    have hv9 := hv8.upd ((Upd.refl (fun x => x = w.heap.size) w8).setRow (g := w.heap.size) (fun _ => rfl) #[.int .i64 k', .int .i64 i', .float .f64 f', .string s', .slice A' n' c9]) (fun g hg e => by have := hz.lt; omega)
    clear v0 v1 v2 v3 v4 hz6 hb7 hv7 hbv hvr hb8 hv8 hb9
    go_wp2_with (refine store_row_gen rfl 26 (Operand.tmp 2) _ rfl w.heap.size #[.int .i64 k', .int .i64 i', .float .f64 f', .string s', .slice A' n' c9] rfl rfl 26 _ hz8 (by kernel_rfl) rfl (by simp [Value.oneCell']) (fun w6 hw6 => ?_); rw [← hw6] at hz9 hb10 hv9; clear hw6)
    refine bodyPost_ret (v := .tuple #[.agg #[.int .i64 k', .int .i64 i', .float .f64 f', .string s', .slice A' n' c9], .int .i64 (m : Int), .int .i64 0]) ?hr rfl ?_
    case hr => exact results_ctt rfl _ _ w.heap.size 26 _ (0, 0) _ _ _ rfl rfl rfl hz9 Try.underlying26 rfl (by kernel_rfl)
    exact ⟨_, rfl, hv9.mono (fun g _ hg => by have := hz.lt; omega), hb10⟩
  · rw [h1]
    rintro e w6 ⟨k', i', f', s', A', n', c9, z, rfl, hb6⟩
    dsimp only
    have hz6 := (hz.below hb6 hz.lt).alloc (.cells #[.int .i64 k', .int .i64 i', .float .f64 f', .string s', .slice A' n' c9] 26)
    have hb7 := (hb4.trans (hb6.mono hb4.size)).alloc (Nat.le_trans hb4.size hb6.size) (.cells #[.int .i64 k', .int .i64 i', .float .f64 f', .string s', .slice A' n' c9] 26)
    have hz9 := hz6.row #[.int .i64 0, .int .i64 0, .float .f64 0, .string ⟨#[]⟩, .slice none 0 0]
    have hb10 := below_row hb7 (g := w.heap.size) (Nat.le_refl _) #[.int .i64 0, .int .i64 0, .float .f64 0, .string ⟨#[]⟩, .slice none 0 0]
    go_wp2_with (refine store_row_gen rfl 26 (Operand.tmp 2) _ rfl w.heap.size #[.int .i64 0, .int .i64 0, .float .f64 0, .string ⟨#[]⟩, .slice none 0 0] (by simp [go_sem]) (by simp [go_sem]) 26 _ hz6 (by kernel_rfl) rfl (by simp [Value.oneCell']) (fun w6 hw6 => ?_); rw [← hw6] at hz9 hb10; clear hw6)
    refine bodyPost_ret (v := .tuple #[.agg #[.int .i64 0, .int .i64 0, .float .f64 0, .string ⟨#[]⟩, .slice none 0 0], .int .i64 0, .int .i64 20]) ?hr rfl ?_
    case hr => exact results_ctt rfl _ _ w.heap.size 26 _ (0, 0) _ _ _ rfl rfl rfl hz9 Try.underlying26 rfl (by kernel_rfl)
    exact ⟨rfl, hb10⟩
  · rw [h1]
    rintro e w6 ⟨cs, rfl, hv, hb6⟩
    dsimp only
    obtain ⟨k', i', f', s', A', n', c9, hform⟩ := hv.reads.form
    have hvr := hv.reads
    subst hform
    have hz6 := (hz.below hb6 hz.lt).alloc (.cells #[.int .i64 k', .int .i64 i', .float .f64 f', .string s', .slice A' n' c9] 26)
    have hb7 := (hb4.trans (hb6.mono hb4.size)).alloc (Nat.le_trans hb4.size hb6.size) (.cells #[.int .i64 k', .int .i64 i', .float .f64 f', .string s', .slice A' n' c9] 26)
    have hbv := Blk.new w6 26 #[.int .i64 k', .int .i64 i', .float .f64 f', .string s', .slice A' n' c9]
    have hck := ref_check hvr (w6.alloc (.cells #[.int .i64 k', .int .i64 i', .float .f64 f', .string s', .slice A' n' c9] 26)) ((Below.refl _ w6).alloc (Nat.le_refl _) _) (by simp)
    have hne : ((checkV v : Int) != 0) = true := by rw [bne_iff_ne]; omega
    generalize checkV v = x at hck hne
    have v0 := hbv.cell 0
    have v1 := hbv.cell 1
    have v2 := hbv.cell 2
    have v3 := hbv.cell 3
    have v4 := hbv.cell 4
    have hw6 : w.heap.size < w6.heap.size := Nat.lt_of_lt_of_le hz.lt hb6.size
    clear hk
    go_wp2_with fail
    refine hck.mono ?_
    clear hck
    rintro e w8 ⟨rfl, hb8⟩
    dsimp only
    have hz8 := hz6.below hb8 hz6.lt
    have hb9 := hb7.trans (hb8.mono hb7.size)
    have hz9 := hz8.row #[.int .i64 0, .int .i64 0, .float .f64 0, .string ⟨#[]⟩, .slice none 0 0]
    have hb10 := below_row hb9 (g := w.heap.size) (Nat.le_refl _) #[.int .i64 0, .int .i64 0, .float .f64 0, .string ⟨#[]⟩, .slice none 0 0]
    clear v0 v1 v2 v3 v4 hz6 hb7 hbv hvr hb8 hb9
    go_wp2_with (refine store_row_gen rfl 26 (Operand.tmp 2) _ rfl w.heap.size #[.int .i64 0, .int .i64 0, .float .f64 0, .string ⟨#[]⟩, .slice none 0 0] (by simp [go_sem]) (by simp [go_sem]) 26 _ hz8 (by kernel_rfl) rfl (by simp [Value.oneCell']) (fun w6 hw6 => ?_); rw [← hw6] at hz9 hb10; clear hw6)
    refine bodyPost_ret (v := .tuple #[.agg #[.int .i64 0, .int .i64 0, .float .f64 0, .string ⟨#[]⟩, .slice none 0 0], .int .i64 0, .int .i64 20]) ?hr rfl ?_
    case hr => exact results_ctt rfl _ _ w.heap.size 26 _ (0, 0) _ _ _ rfl rfl rfl hz9 Try.underlying26 rfl (by kernel_rfl)
    exact ⟨rfl, hb10⟩
end Go.Proofs.Ytafogjonicdbmaa
