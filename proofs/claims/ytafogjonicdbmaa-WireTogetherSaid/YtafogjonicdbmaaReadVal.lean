/- wire's reader: a flat value read. -/
import Derived.Test.YtafogjonicdbmaaReader
namespace Go.Proofs.Ytafogjonicdbmaa
open Go.RowKit

def ValRes (w : World) (r : Nat) (ad : Addr) (n c at_ : Nat) (deep : Int) (v : Value) (e : Ending) (w' : World) : Prop :=
  e = .returned v ∧ RdAt w' r (some ad) n c at_ deep ∧ Upd (fun x => x = r) w w'

theorem run_store_float {P : Program} (a : Addr) (k : FloatKind) (x : Nat) (m : Mode) (w : World) : (store a (.float k x) m).run P w = stored P w a (.float k x) m := run_store P w a _ m rfl

set_option maxHeartbeats 1600000 in
theorem value_int {ad : Addr} {c B r at_ : Nat} {deep : Int} {b : List UInt8} {w : World} (h : RdAt w r (some ad) b.length c at_ deep) (hr : Reads w B 1 (some ad) b.length (bys b)) (hB : B ≤ r) (hc : b.length ≤ c) (hl : b.length ≤ 1000000000)
    (hat : at_ + 9 ≤ b.length) (hv1 : readU ((b.drop at_).take 1) = 1) (v : Nat) (hv : readU ((b.drop (at_ + 1)).take 8) = v) :
    Calls Try.prog 35 #[.pointer (some ⟨r, 0, none⟩)] w (ValRes w r ad b.length c (at_ + 9) deep (.agg #[.int .i64 1, .int .i64 (wrap64 v), .float .f64 0, .string ⟨#[]⟩, .slice none 0 0])) := by
  have hrl : r < w.heap.size := h.lt
  have hsf := fun a k x m w => run_store_float (P := Try.prog) a k x m w
  replace hv := Lib.hid hv
  replace hv1 := Lib.hid hv1
  go_enter Try.func35, Try.ntmps35
  go_wp2_with fail
  refine (number_ok (k := 1) (Blk.alloc h _) (hr.alloc (by omega) _) hB hc hl (by omega) (by omega) (by omega) 1 hv1.out).mono ?_
  rintro e w1 ⟨rfl, h1, hu1⟩
  dsimp only
  go_wp2_with fail
  have hz1 : Blk w1 w.heap.size 26 #[.int .i64 0, .int .i64 0, .float .f64 0, .string ⟨#[]⟩, .slice none 0 0] := (Blk.new w _ _).upd hu1 (by omega)
  have hzl := hz1.lt
  have hwl1 : w.heap.size < w1.heap.size := hzl
  refine (number_ok (k := 8) (at_ := at_ + 1) (Blk.alloc h1 _) ((hr.alloc (by omega) _ |>.upd hu1 (by omega) (by simp; omega)).alloc (by omega) _) hB hc hl (by omega) (by omega) (by omega) v hv.out).mono ?_
  rintro e w2 ⟨rfl, h2, hu2⟩
  dsimp only
  have hz2 : Blk w2 w.heap.size 26 #[.int .i64 0, .int .i64 0, .float .f64 0, .string ⟨#[]⟩, .slice none 0 0] := (hz1.alloc _).upd hu2 (by omega)
  have hv2 : Blk w2 w1.heap.size 26 #[.int .i64 1, .int .i64 0, .float .f64 0, .string ⟨#[]⟩, .slice none 0 0] := (Blk.new w1 _ _).upd hu2 (by omega)
  have hu : Upd (fun x => x = r) w w2 := (((Upd.refl _ w).alloc _).trans hu1 (fun _ _ h => h)).alloc _ |>.trans hu2 (fun _ _ h => h)
  have c0 := hz2.cell 0
  have c1 := hz2.cell 1
  have c2 := hz2.cell 2
  have c3 := hz2.cell 3
  have c4 := hz2.cell 4
  have d0 := hv2.cell 0
  have d1 := hv2.cell 1
  have d2 := hv2.cell 2
  have d3 := hv2.cell 3
  have d4 := hv2.cell 4
  have f0 := hz2.frozen
  have f1 := hv2.frozen
  have hne : w.heap.size ≠ w1.heap.size := by omega
  have hrz : r ≠ w.heap.size := by omega
  have hry : r ≠ w1.heap.size := by omega
  have hnz : ¬ w.heap.size < w.heap.size := by omega
  have hny : ¬ w1.heap.size < w.heap.size := by omega
  replace h2 := Lib.hid h2
  replace hu := Lib.hid hu
  generalize hzw : w.heap.size = z at *
  generalize w1.heap.size = y at *
  replace hzw := Lib.hid hzw
  go_wp2_with fail
  have hzf := (((((hz2.far (p := ⟨y, 1, none⟩) hne (.int .i64 (wrap64 v))).set_ 0 (.int .i64 1)).set_ 1 (.int .i64 (wrap64 v))).set_ 2 (.float .f64 0)).set_ 3 (.string ⟨#[]⟩)).set_ 4 (.slice none 0 0)
  have hRf := (((((Blk.far h2.out (p := ⟨y, 1, none⟩) hry (.int .i64 (wrap64 v))).far (p := ⟨z, 0, none⟩) hrz (.int .i64 1)).far (p := ⟨z, 1, none⟩) hrz (.int .i64 (wrap64 v))).far (p := ⟨z, 2, none⟩) hrz (.float .f64 0)).far (p := ⟨z, 3, none⟩) hrz (.string ⟨#[]⟩)).far (p := ⟨z, 4, none⟩) hrz (.slice none 0 0)
  have hUf := (((((hu.out.setCell (p := ⟨y, 1, none⟩) (fun h => absurd (hzw.out ▸ h) hny) (.int .i64 (wrap64 v))).setCell (p := ⟨z, 0, none⟩) (fun h => absurd (hzw.out ▸ h) hnz) (.int .i64 1)).setCell (p := ⟨z, 1, none⟩) (fun h => absurd (hzw.out ▸ h) hnz) (.int .i64 (wrap64 v))).setCell (p := ⟨z, 2, none⟩) (fun h => absurd (hzw.out ▸ h) hnz) (.float .f64 0)).setCell (p := ⟨z, 3, none⟩) (fun h => absurd (hzw.out ▸ h) hnz) (.string ⟨#[]⟩)).setCell (p := ⟨z, 4, none⟩) (fun h => absurd (hzw.out ▸ h) hnz) (.slice none 0 0)
  refine bodyPost_ret ?hr rfl ⟨rfl, hRf, hUf⟩
  case hr => exact results_cell_row rfl _ _ z 26 _ (0, 0) _ rfl hzf Try.underlying26 rfl (by kernel_rfl)
end Go.Proofs.Ytafogjonicdbmaa
