/- wire's reader at a list that may not be. -/
import Derived.Test.YtafogjonicdbmaaReadList
namespace Go.Proofs.Ytafogjonicdbmaa
open Go.RowKit

set_option maxHeartbeats 1600000 in
set_option maxRecDepth 100000 in
theorem value_list_deep {ad : Addr} {c B r at_ : Nat} {b : List UInt8} {deep : Int} {w : World} (h : RdAt w r (some ad) b.length c at_ deep) (hr : Reads w B 1 (some ad) b.length (bys b)) (hB : B ≤ r) (hc : b.length ≤ c) (hl : b.length ≤ 1000000000) (hd : deep ≤ 100)
    (hat : at_ + 1 ≤ b.length) (hv1 : readU ((b.drop at_).take 1) = 4) (hd0 : deep ≤ 0) :
    Calls Try.prog 35 #[.pointer (some ⟨r, 0, none⟩)] w (fun e w' => e = .panicked shortP ∧ Upd (fun x => x = r) w w') := by
  have hrl : r < w.heap.size := h.lt
  have hsf := fun a k x m w => run_store_float (P := Try.prog) a k x m w
  have hr0 := Lib.hid hr
  replace hv1 := Lib.hid hv1
  go_enter Try.func35, Try.ntmps35
  go_wp2_with fail
  refine (number_ok (k := 1) (Blk.alloc h _) (hr.alloc (by omega) _) hB hc hl (by omega) (by omega) (by omega) 4 hv1.out).mono ?_
  rintro e w1 ⟨rfl, h1, hu1⟩
  dsimp only
  rw [show ((4 : Nat) : Int) = 4 from rfl]
  have hz1 : Blk w1 w.heap.size 26 #[.int .i64 0, .int .i64 0, .float .f64 0, .string ⟨#[]⟩, .slice none 0 0] := (Blk.new w _ _).upd hu1 (by omega)
  have hwl1 : w.heap.size < w1.heap.size := hz1.lt
  have hr1 := (hr.alloc (by omega) (.cells #[.int .i64 0, .int .i64 0, .float .f64 0, .string ⟨#[]⟩, .slice none 0 0] 26)).upd hu1 (by omega) (by simp; omega)
  have hu := ((Upd.refl (fun x => x = r) w).alloc (.cells #[.int .i64 0, .int .i64 0, .float .f64 0, .string ⟨#[]⟩, .slice none 0 0] 26)).trans hu1 (fun _ _ h => h)
  have hz2 := hz1.alloc (.cells #[.int .i64 4, .int .i64 0, .float .f64 0, .string ⟨#[]⟩, .slice none 0 0] 26)
  have hy2 := Blk.new w1 26 #[.int .i64 4, .int .i64 0, .float .f64 0, .string ⟨#[]⟩, .slice none 0 0]
  have h2 := Blk.alloc h1 (.cells #[.int .i64 4, .int .i64 0, .float .f64 0, .string ⟨#[]⟩, .slice none 0 0] 26)
  have hu2 := hu.alloc (.cells #[.int .i64 4, .int .i64 0, .float .f64 0, .string ⟨#[]⟩, .slice none 0 0] 26)
  have hr2 := hr1.alloc (by omega) (.cells #[.int .i64 4, .int .i64 0, .float .f64 0, .string ⟨#[]⟩, .slice none 0 0] 26)
  have hs2 : (w1.alloc (.cells #[.int .i64 4, .int .i64 0, .float .f64 0, .string ⟨#[]⟩, .slice none 0 0] 26)).heap.size = w1.heap.size + 1 := by simp
  clear hz1 hr1 hu h1 hu1 h hr
  have q2 := Blk.cell h2 2
  have hdn : ¬ 0 < deep := by omega
  go_wp2_with fail
  refine (must_no _).mono ?_
  rintro e w3 ⟨rfl, rfl⟩
  dsimp only
  go_wp2_with fail
  exact ⟨rfl, rfl, hu2⟩

set_option maxHeartbeats 1600000 in
set_option maxRecDepth 100000 in
theorem value_list_short {ad : Addr} {c B r at_ : Nat} {b : List UInt8} {deep : Int} {w : World} (h : RdAt w r (some ad) b.length c at_ deep) (hr : Reads w B 1 (some ad) b.length (bys b)) (hB : B ≤ r) (hc : b.length ≤ c) (hl : b.length ≤ 1000000000) (hd : deep ≤ 100)
    (hat : at_ + 1 ≤ b.length) (hv1 : readU ((b.drop at_).take 1) = 4) (hd0 : 0 < deep) (hs : b.length = at_ + 1) :
    Calls Try.prog 35 #[.pointer (some ⟨r, 0, none⟩)] w (fun e w' => e = .panicked shortP ∧ Upd (fun x => x = r) w w') := by
  have hrl : r < w.heap.size := h.lt
  have hsf := fun a k x m w => run_store_float (P := Try.prog) a k x m w
  have hr0 := Lib.hid hr
  replace hv1 := Lib.hid hv1
  go_enter Try.func35, Try.ntmps35
  go_wp2_with fail
  refine (number_ok (k := 1) (Blk.alloc h _) (hr.alloc (by omega) _) hB hc hl (by omega) (by omega) (by omega) 4 hv1.out).mono ?_
  rintro e w1 ⟨rfl, h1, hu1⟩
  dsimp only
  rw [show ((4 : Nat) : Int) = 4 from rfl]
  have hz1 : Blk w1 w.heap.size 26 #[.int .i64 0, .int .i64 0, .float .f64 0, .string ⟨#[]⟩, .slice none 0 0] := (Blk.new w _ _).upd hu1 (by omega)
  have hwl1 : w.heap.size < w1.heap.size := hz1.lt
  have hr1 := (hr.alloc (by omega) (.cells #[.int .i64 0, .int .i64 0, .float .f64 0, .string ⟨#[]⟩, .slice none 0 0] 26)).upd hu1 (by omega) (by simp; omega)
  have hu := ((Upd.refl (fun x => x = r) w).alloc (.cells #[.int .i64 0, .int .i64 0, .float .f64 0, .string ⟨#[]⟩, .slice none 0 0] 26)).trans hu1 (fun _ _ h => h)
  have hz2 := hz1.alloc (.cells #[.int .i64 4, .int .i64 0, .float .f64 0, .string ⟨#[]⟩, .slice none 0 0] 26)
  have hy2 := Blk.new w1 26 #[.int .i64 4, .int .i64 0, .float .f64 0, .string ⟨#[]⟩, .slice none 0 0]
  have h2 := Blk.alloc h1 (.cells #[.int .i64 4, .int .i64 0, .float .f64 0, .string ⟨#[]⟩, .slice none 0 0] 26)
  have hu2 := hu.alloc (.cells #[.int .i64 4, .int .i64 0, .float .f64 0, .string ⟨#[]⟩, .slice none 0 0] 26)
  have hr2 := hr1.alloc (by omega) (.cells #[.int .i64 4, .int .i64 0, .float .f64 0, .string ⟨#[]⟩, .slice none 0 0] 26)
  have hs2 : (w1.alloc (.cells #[.int .i64 4, .int .i64 0, .float .f64 0, .string ⟨#[]⟩, .slice none 0 0] 26)).heap.size = w1.heap.size + 1 := by simp
  clear hz1 hr1 hu h1 hu1 h hr
  replace hs := Lib.hid hs
  have q2 := Blk.cell h2 2
  go_wp2_with fail
  generalize w1.alloc (.cells #[.int .i64 4, .int .i64 0, .float .f64 0, .string ⟨#[]⟩, .slice none 0 0] 26) = w2 at *
  generalize w1.heap.size = y at *
  refine (must_ok w2).mono ?_
  rintro e w3 ⟨rfl, rfl⟩
  dsimp only
  have fr2 := Blk.frozen h2 2
  have hry : r ≠ y := by omega
  have hrz : r ≠ w.heap.size := by omega
  have hzy : w.heap.size ≠ y := by omega
  have h3 : RdAt (w2.setCell ⟨r, 2, none⟩ (.int .i64 (deep - 1))) r (some ad) b.length c (at_ + 1) (deep - 1) := Blk.set_ h2 2 (.int .i64 (deep - 1))
  have hz3 := hz2.far (p := ⟨r, 2, none⟩) hrz.symm (.int .i64 (deep - 1))
  have hy3 := hy2.far (p := ⟨r, 2, none⟩) hry.symm (.int .i64 (deep - 1))
  have hu3 := hu2.setCell (p := ⟨r, 2, none⟩) (fun _ => rfl) (.int .i64 (deep - 1))
  have hr3 := hr2.setCell (p := ⟨r, 2, none⟩) hB (.int .i64 (deep - 1))
  have hs3 : (w2.setCell ⟨r, 2, none⟩ (.int .i64 (deep - 1))).heap.size = y + 1 := by simp [hs2]
  clear hz2 hy2 hu2 hr2 hs2
  replace h2 := Lib.hid h2
  go_wp2_with fail
  generalize w2.setCell ⟨r, 2, none⟩ (.int .i64 (deep - 1)) = w3 at *
  clear h2 q2 fr2 w2
  refine (number_no (k := 1) h3 (by simp) hc hl (by omega) (by omega) (by rw [hs.out]; omega)).mono ?_
  rintro e w4 ⟨rfl, hb4⟩
  dsimp only
  go_wp2_with fail
  exact ⟨rfl, rfl, hu3.thenBelow hb4 hu3.size⟩

set_option maxHeartbeats 1600000 in
set_option maxRecDepth 100000 in
theorem value_list_many {ad : Addr} {c B r at_ : Nat} {b : List UInt8} {deep : Int} {w : World} (h : RdAt w r (some ad) b.length c at_ deep) (hr : Reads w B 1 (some ad) b.length (bys b)) (hB : B ≤ r) (hc : b.length ≤ c) (hl : b.length ≤ 1000000000) (hd : deep ≤ 100)
    (hat : at_ + 1 ≤ b.length) (hv1 : readU ((b.drop at_).take 1) = 4) (hd0 : 0 < deep) (hat2 : at_ + 2 ≤ b.length) (n : Nat) (hn : readU ((b.drop (at_ + 1)).take 1) = n) (hn64 : 64 < n) :
    Calls Try.prog 35 #[.pointer (some ⟨r, 0, none⟩)] w (fun e w' => e = .panicked shortP ∧ Upd (fun x => x = r) w w') := by
  have hrl : r < w.heap.size := h.lt
  have hsf := fun a k x m w => run_store_float (P := Try.prog) a k x m w
  have hr0 := Lib.hid hr
  replace hv1 := Lib.hid hv1
  go_enter Try.func35, Try.ntmps35
  go_wp2_with fail
  refine (number_ok (k := 1) (Blk.alloc h _) (hr.alloc (by omega) _) hB hc hl (by omega) (by omega) (by omega) 4 hv1.out).mono ?_
  rintro e w1 ⟨rfl, h1, hu1⟩
  dsimp only
  rw [show ((4 : Nat) : Int) = 4 from rfl]
  have hz1 : Blk w1 w.heap.size 26 #[.int .i64 0, .int .i64 0, .float .f64 0, .string ⟨#[]⟩, .slice none 0 0] := (Blk.new w _ _).upd hu1 (by omega)
  have hwl1 : w.heap.size < w1.heap.size := hz1.lt
  have hr1 := (hr.alloc (by omega) (.cells #[.int .i64 0, .int .i64 0, .float .f64 0, .string ⟨#[]⟩, .slice none 0 0] 26)).upd hu1 (by omega) (by simp; omega)
  have hu := ((Upd.refl (fun x => x = r) w).alloc (.cells #[.int .i64 0, .int .i64 0, .float .f64 0, .string ⟨#[]⟩, .slice none 0 0] 26)).trans hu1 (fun _ _ h => h)
  have hz2 := hz1.alloc (.cells #[.int .i64 4, .int .i64 0, .float .f64 0, .string ⟨#[]⟩, .slice none 0 0] 26)
  have hy2 := Blk.new w1 26 #[.int .i64 4, .int .i64 0, .float .f64 0, .string ⟨#[]⟩, .slice none 0 0]
  have h2 := Blk.alloc h1 (.cells #[.int .i64 4, .int .i64 0, .float .f64 0, .string ⟨#[]⟩, .slice none 0 0] 26)
  have hu2 := hu.alloc (.cells #[.int .i64 4, .int .i64 0, .float .f64 0, .string ⟨#[]⟩, .slice none 0 0] 26)
  have hr2 := hr1.alloc (by omega) (.cells #[.int .i64 4, .int .i64 0, .float .f64 0, .string ⟨#[]⟩, .slice none 0 0] 26)
  have hs2 : (w1.alloc (.cells #[.int .i64 4, .int .i64 0, .float .f64 0, .string ⟨#[]⟩, .slice none 0 0] 26)).heap.size = w1.heap.size + 1 := by simp
  clear hz1 hr1 hu h1 hu1 h hr
  replace hn := Lib.hid hn
  have q2 := Blk.cell h2 2
  go_wp2_with fail
  generalize w1.alloc (.cells #[.int .i64 4, .int .i64 0, .float .f64 0, .string ⟨#[]⟩, .slice none 0 0] 26) = w2 at *
  generalize w1.heap.size = y at *
  refine (must_ok w2).mono ?_
  rintro e w3 ⟨rfl, rfl⟩
  dsimp only
  have fr2 := Blk.frozen h2 2
  have hry : r ≠ y := by omega
  have hrz : r ≠ w.heap.size := by omega
  have hzy : w.heap.size ≠ y := by omega
  have h3 : RdAt (w2.setCell ⟨r, 2, none⟩ (.int .i64 (deep - 1))) r (some ad) b.length c (at_ + 1) (deep - 1) := Blk.set_ h2 2 (.int .i64 (deep - 1))
  have hz3 := hz2.far (p := ⟨r, 2, none⟩) hrz.symm (.int .i64 (deep - 1))
  have hy3 := hy2.far (p := ⟨r, 2, none⟩) hry.symm (.int .i64 (deep - 1))
  have hu3 := hu2.setCell (p := ⟨r, 2, none⟩) (fun _ => rfl) (.int .i64 (deep - 1))
  have hr3 := hr2.setCell (p := ⟨r, 2, none⟩) hB (.int .i64 (deep - 1))
  have hs3 : (w2.setCell ⟨r, 2, none⟩ (.int .i64 (deep - 1))).heap.size = y + 1 := by simp [hs2]
  clear hz2 hy2 hu2 hr2 hs2
  replace h2 := Lib.hid h2
  go_wp2_with fail
  generalize w2.setCell ⟨r, 2, none⟩ (.int .i64 (deep - 1)) = w3 at *
  clear h2 q2 fr2 w2
  refine (number_ok (k := 1) h3 hr3 hB hc hl (by omega) (by omega) (by omega) n hn.out).mono ?_
  rintro e w4 ⟨rfl, h4, hu4'⟩
  dsimp only
  have hz4 := hz3.upd hu4' (by omega)
  have hy4 := hy3.upd hu4' (by omega)
  have hu4 := hu3.trans hu4' (fun _ _ h => h)
  have hr4 := hr3.upd hu4' (by omega) (by omega)
  have hs4 : y < w4.heap.size := hy4.lt
  clear hz3 hy3 hu3 hr3 hs3 h3 hu4'
  go_wp2_with fail
  rw [show decide ((n : Int) ≤ 64) = false from decide_eq_false (by omega)]
  refine (must_no w4).mono ?_
  rintro e w5 ⟨rfl, rfl⟩
  dsimp only
  go_wp2_with fail
  exact ⟨rfl, rfl, hu4⟩

end Go.Proofs.Ytafogjonicdbmaa
