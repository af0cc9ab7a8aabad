/- wire's reader at a byte of no kind. -/
import Derived.Test.YtafogjonicdbmaaWireRead
namespace Go.Proofs.Ytafogjonicdbmaa
open Go.RowKit

set_option maxHeartbeats 800000 in
theorem value_bad {ad : Addr} {c B r at_ : Nat} {deep : Int} {b : List UInt8} {w : World} (h : RdAt w r (some ad) b.length c at_ deep) (hr : Reads w B 1 (some ad) b.length (bys b)) (hB : B ≤ r) (hc : b.length ≤ c) (hl : b.length ≤ 1000000000)
    (hat : at_ + 1 ≤ b.length) (v : Nat) (hv : readU ((b.drop at_).take 1) = v) (hv5 : 5 ≤ v) (hv9 : v < 256) :
    Calls Try.prog 35 #[.pointer (some ⟨r, 0, none⟩)] w (fun e w' => e = .panicked shortP ∧ Upd (fun x => x = r) w w') := by
  have hrl : r < w.heap.size := h.lt
  have hsf := fun a k x m w => run_store_float (P := Try.prog) a k x m w
  have v0 : ((v : Int) == 0) = false := by rw [beq_eq_false_iff_ne]; omega
  have v1 : ((v : Int) == 1) = false := by rw [beq_eq_false_iff_ne]; omega
  have v2 : ((v : Int) == 2) = false := by rw [beq_eq_false_iff_ne]; omega
  have v3 : ((v : Int) == 3) = false := by rw [beq_eq_false_iff_ne]; omega
  have v4 : ((v : Int) == 4) = false := by rw [beq_eq_false_iff_ne]; omega
  replace hv := Lib.hid hv
  go_enter Try.func35, Try.ntmps35
  go_wp2_with fail
  refine (number_ok (k := 1) (Blk.alloc h _) (hr.alloc (by omega) _) hB hc hl (by omega) (by omega) (by omega) v hv.out).mono ?_
  rintro e w1 ⟨rfl, h1, hu1⟩
  dsimp only
  have hu : Upd (fun x => x = r) w (w1.alloc (.cells #[.int .i64 (v : Int), .int .i64 0, .float .f64 0, .string ⟨#[]⟩, .slice none 0 0] 26)) := (((Upd.refl _ w).alloc _).trans hu1 (fun _ _ h => h)).alloc _
  have hwl : w.heap.size < w1.heap.size := by have := hu1.size; simp at this; omega
  go_wp2_with fail
  refine (must_no _).mono ?_
  rintro e w2 ⟨rfl, rfl⟩
  dsimp only
  go_wp2_with fail
  exact ⟨rfl, rfl, hu⟩
end Go.Proofs.Ytafogjonicdbmaa
