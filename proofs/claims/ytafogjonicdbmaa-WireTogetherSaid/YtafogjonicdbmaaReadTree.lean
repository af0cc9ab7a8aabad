/- wire's reader at any bytes: the parts without lists. -/
import Derived.Test.YtafogjonicdbmaaPv
namespace Go.Proofs.Ytafogjonicdbmaa
open Go.RowKit

/-- What value() does at bytes that say o. -/
def PRes (w : World) (r : Nat) (ad : Addr) (n c at_ : Nat) (deep : Int) (o : Option (Val × Nat)) (e : Ending) (w' : World) : Prop :=
  match o with
  | some (v, m) => ∃ cs, e = .returned (.agg cs) ∧ VOwn w' (fun g => w.heap.size ≤ g) v cs ∧ RdAt w' r (some ad) n c (at_ + m) deep ∧ Upd (fun x => x = r) w w'
  | none => e = .panicked shortP ∧ Upd (fun x => x = r) w w'

theorem value_end {ad : Addr} {n c r at_ : Nat} {deep : Int} {w : World} (h : RdAt w r (some ad) n c at_ deep) (hc : n ≤ c) (hl : n ≤ 1000000000) (hat : at_ = n) :
    Calls Try.prog 35 #[.pointer (some ⟨r, 0, none⟩)] w (fun e w' => e = .panicked shortP ∧ Upd (fun x => x = r) w w') := by
  replace hat := Lib.hid hat
  go_enter Try.func35, Try.ntmps35
  go_wp2_with fail
  refine (number_no (k := 1) (Blk.alloc h _) (by simp) hc hl (by omega) (by rw [hat.out]; exact Nat.le_refl _) (by rw [hat.out]; omega)).mono ?_
  rintro e w1 ⟨rfl, hb1⟩
  dsimp only
  go_wp2_with fail
  exact ⟨rfl, rfl, ((Upd.refl _ w).alloc _).trans ((Upd.refl _ _).thenBelow hb1 (Nat.le_refl _)) (fun _ _ h => h)⟩

set_option maxHeartbeats 1600000 in
theorem value_nil {ad : Addr} {c B r at_ : Nat} {deep : Int} {b : List UInt8} {w : World} (h : RdAt w r (some ad) b.length c at_ deep) (hr : Reads w B 1 (some ad) b.length (bys b)) (hB : B ≤ r) (hc : b.length ≤ c) (hl : b.length ≤ 1000000000)
    (hat : at_ + 1 ≤ b.length) (hv1 : readU ((b.drop at_).take 1) = 0) :
    Calls Try.prog 35 #[.pointer (some ⟨r, 0, none⟩)] w (ValRes w r ad b.length c (at_ + 1) deep (.agg #[.int .i64 0, .int .i64 0, .float .f64 0, .string ⟨#[]⟩, .slice none 0 0])) := by
  have hrl : r < w.heap.size := h.lt
  have hsf := fun a k x m w => run_store_float (P := Try.prog) a k x m w
  replace hv1 := Lib.hid hv1
  go_enter Try.func35, Try.ntmps35
  go_wp2_with fail
  refine (number_ok (k := 1) (Blk.alloc h _) (hr.alloc (by omega) _) hB hc hl (by omega) (by omega) (by omega) 0 hv1.out).mono ?_
  rintro e w1 ⟨rfl, h1, hu1⟩
  dsimp only
  have hz1 : Blk w1 w.heap.size 26 #[.int .i64 0, .int .i64 0, .float .f64 0, .string ⟨#[]⟩, .slice none 0 0] := (Blk.new w _ _).upd hu1 (by omega)
  have hwl1 : w.heap.size < w1.heap.size := hz1.lt
  have hz2 := hz1.alloc (.cells #[.int .i64 0, .int .i64 0, .float .f64 0, .string ⟨#[]⟩, .slice none 0 0] 26)
  have hy2 := Blk.new w1 26 #[.int .i64 0, .int .i64 0, .float .f64 0, .string ⟨#[]⟩, .slice none 0 0]
  have h2 := Blk.alloc h1 (.cells #[.int .i64 0, .int .i64 0, .float .f64 0, .string ⟨#[]⟩, .slice none 0 0] 26)
  have hu : Upd (fun x => x = r) w (w1.alloc (.cells #[.int .i64 0, .int .i64 0, .float .f64 0, .string ⟨#[]⟩, .slice none 0 0] 26)) := (((Upd.refl _ w).alloc _).trans hu1 (fun _ _ h => h)).alloc _
  have hrz : r ≠ w.heap.size := by omega
  have hzf := hz2.row #[.int .i64 0, .int .i64 0, .float .f64 0, .string ⟨#[]⟩, .slice none 0 0]
  have hRf := Blk.farRow h2 (g := w.heap.size) hrz #[.int .i64 0, .int .i64 0, .float .f64 0, .string ⟨#[]⟩, .slice none 0 0]
  have hUf := hu.setRow (g := w.heap.size) (fun h => absurd h (Nat.lt_irrefl _)) #[.int .i64 0, .int .i64 0, .float .f64 0, .string ⟨#[]⟩, .slice none 0 0]
  have d0 := hy2.cell 0
  have d1 := hy2.cell 1
  have d2 := hy2.cell 2
  have d3 := hy2.cell 3
  have d4 := hy2.cell 4
  replace hu := Lib.hid hu
  replace hz1 := Lib.hid hz1
  replace h2 := Lib.hid h2
  go_wp2_with (refine store_row_gen rfl 26 (Operand.tmp 2) _ rfl w.heap.size #[.int .i64 0, .int .i64 0, .float .f64 0, .string ⟨#[]⟩, .slice none 0 0] rfl rfl 26 _ hz2 (by kernel_rfl) rfl (by simp [Value.oneCell']) (fun w6 hw6 => ?_); rw [← hw6] at hzf hRf hUf; clear hw6 hz2 hy2)
  refine bodyPost_ret ?hr rfl ⟨rfl, hRf, hUf⟩
  case hr => exact results_cell_row rfl _ _ w.heap.size 26 _ (0, 0) _ rfl hzf Try.underlying26 rfl (by kernel_rfl)

set_option maxHeartbeats 1600000 in
theorem value_num_no {ad : Addr} {c B r at_ : Nat} {deep : Int} {b : List UInt8} {w : World} (h : RdAt w r (some ad) b.length c at_ deep) (hr : Reads w B 1 (some ad) b.length (bys b)) (hB : B ≤ r) (hc : b.length ≤ c) (hl : b.length ≤ 1000000000)
    (hat : at_ + 1 ≤ b.length) (v : Nat) (hv : readU ((b.drop at_).take 1) = v) (hv12 : v = 1 ∨ v = 2) (hno : b.length < at_ + 9) :
    Calls Try.prog 35 #[.pointer (some ⟨r, 0, none⟩)] w (fun e w' => e = .panicked shortP ∧ Upd (fun x => x = r) w w') := by
  have hrl : r < w.heap.size := h.lt
  have hsf := fun a k x m w => run_store_float (P := Try.prog) a k x m w
  replace hv := Lib.hid hv
  rcases hv12 with rfl | rfl
  all_goals
    go_enter Try.func35, Try.ntmps35
    go_wp2_with fail
    refine (number_ok (k := 1) (Blk.alloc h _) (hr.alloc (by omega) _) hB hc hl (by omega) (by omega) (by omega) _ hv.out).mono ?_
    rintro e w1 ⟨rfl, h1, hu1⟩
    dsimp only
    have hu := ((Upd.refl (fun x => x = r) w).alloc (.cells #[.int .i64 0, .int .i64 0, .float .f64 0, .string ⟨#[]⟩, .slice none 0 0] 26)).trans hu1 (fun _ _ h => h)
    go_wp2_with fail
    refine (number_no (k := 8) (Blk.alloc h1 _) (by simp) hc hl (by omega) (by omega) (by omega)).mono ?_
    rintro e w2 ⟨rfl, hb2⟩
    dsimp only
    go_wp2_with fail
    exact ⟨rfl, rfl, (hu.alloc _).thenBelow hb2 (hu.alloc _).size⟩
end Go.Proofs.Ytafogjonicdbmaa
