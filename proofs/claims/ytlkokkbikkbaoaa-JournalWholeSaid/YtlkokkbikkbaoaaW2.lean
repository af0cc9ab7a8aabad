/- Floats; values read. -/
import Derived.Test.YtlkokkbikkbaoaaW1
import Derived.Lib.SlBytesConst
import Derived.Laws.Cover2
import Derived.Laws.Externs
set_option linter.unusedSimpArgs false
set_option linter.unusedVariables false
set_option linter.unusedSimpArgs false
set_option linter.unusedVariables false
namespace Go.Proofs.Ytlkokkbikkbaoaa
set_option maxRecDepth 100000
open Go.RowKit
theorem int_ref (n : Int) (w : World) : Calls Try.prog 31 #[.int .i64 n] w (Says w (.agg #[.int .i64 1, .int .i64 n, .float .f64 0, .string ⟨#[]⟩, .slice none 0 0])) := by
  have hsf := fun a k x m w => run_store_float (P := Try.prog) a k x m w
  go_enter Try.func31, Try.ntmps31
  go_wp2_with fail
  have hb := Blk.new w 64 #[.int .i64 1, .int .i64 n, .float .f64 0, .string ⟨#[]⟩, .slice none 0 0]
  refine bodyPost_ret ?hr rfl ⟨rfl, (Below.refl _ w).alloc (Nat.le_refl _) _⟩
  case hr => exact results_cell_row rfl _ _ w.heap.size 64 _ (0, 0) _ rfl hb Try.underlying64 rfl (by kernel_rfl)
end Go.Proofs.Ytlkokkbikkbaoaa
namespace Go.Proofs.Ytlkokkbikkbaoaa
set_option maxRecDepth 100000
open Go.RowKit
def nanB (x : Nat) : Bool := decide (9218868437227405312 < x % 9223372036854775808)
/-- The bits of a number, of any NaN the one's. -/
def cb (x : Nat) : Nat := if nanB x then 9221120237041090561 else x
theorem datum_self (d : Ieee.Datum) : (d.order d != some .eq) = d.isNaN := by
  cases d with
  | number s m e =>
    have hc : ∀ a : Int, compare a a = Ordering.eq := fun a => by simp [compare, compareOfLessAndEq]
    simp [Ieee.Datum.order, Ieee.Datum.isNaN, hc]
  | infinity s =>
    have hc : ∀ a : Nat, compare a a = Ordering.eq := fun a => by simp [compare, compareOfLessAndEq]
    simp [Ieee.Datum.order, Ieee.Datum.isNaN, hc]
  | nan s f => simp [Ieee.Datum.order, Ieee.Datum.isNaN]
theorem read_nan (x : Nat) : (Ieee.double.read x).isNaN = nanB x := by
  have hs : Ieee.double.signWeight = 9223372036854775808 := by decide
  have hb : Ieee.double.binade = 4503599627370496 := by decide
  have hi : Ieee.double.infRung = 9218868437227405312 := by decide
  unfold Ieee.Format.read nanB
  simp only [hs, hb, hi]
  generalize (x / 9223372036854775808 % 2 == 1) = neg
  generalize x % 9223372036854775808 = y
  by_cases h1 : y < 4503599627370496
  · rw [if_pos h1]
    have : ¬ 9218868437227405312 < y := by omega
    simp [Ieee.Datum.isNaN, this]
  rw [if_neg h1]
  by_cases h2 : y < 9218868437227405312
  · rw [if_pos h2]
    have : ¬ 9218868437227405312 < y := by omega
    simp [Ieee.Datum.isNaN, this]
  rw [if_neg h2]
  by_cases h3 : y = 9218868437227405312
  · rw [if_pos h3, h3]
    simp [Ieee.Datum.isNaN]
  · rw [if_neg h3]
    have : 9218868437227405312 < y := by omega
    simp [Ieee.Datum.isNaN, this]
theorem order_self (x : Nat) : (FloatKind.f64.format.order x x != some .eq) = nanB x := by
  rw [← read_nan]
  exact datum_self _
theorem run_frombits (n : Nat) (w : World) : (callFunc 54 #[.int .u64 (n : Int)]).run Try.prog w = .ok (.value (.float .f64 n)) w := by
  rw [run_callFunc_extern Try.func54 (by kernel_rfl) (by kernel_rfl) (by kernel_rfl) (e := Extern.MathFloatBits.float64frombits) (by kernel_rfl)]
  rfl
theorem run_bits (n : Nat) (w : World) : (callFunc 71 #[.float .f64 n]).run Try.prog w = .ok (.value (.int .u64 (n : Int))) w := by
  rw [run_callFunc_extern Try.func71 (by kernel_rfl) (by kernel_rfl) (by kernel_rfl) (e := Extern.MathFloatBits.float64bits) (by kernel_rfl)]
  rfl
theorem num_bits (x : Nat) (w : World) : Calls Try.prog 67 #[.float .f64 x] w fun e w' => e = .returned (.int .u64 (cb x : Int)) ∧ w = w' := by
  have hbf := fun n w => run_bits n w
  have ho := order_self x
  by_cases h : nanB x = true
  · rw [h] at ho
    have hc : cb x = 9221120237041090561 := by unfold cb; rw [if_pos h]
    rw [hc]
    have hcan : ∀ w, (callFunc 54 #[.int .u64 9221120237041090561]).run Try.prog w = .ok (.value (.float .f64 9221120237041090561)) w := fun w => run_frombits 9221120237041090561 w
    have hcan2 : ∀ w, (callFunc 71 #[.float .f64 9221120237041090561]).run Try.prog w = .ok (.value (.int .u64 9221120237041090561)) w := fun w => run_bits 9221120237041090561 w
    clear hbf
    clear h hc
    go_enter Try.func67, Try.ntmps67
    go_wp2
    go_ret
    exact ⟨rfl, rfl⟩
  · rw [Bool.not_eq_true] at h
    rw [h] at ho
    have hc : cb x = x := by unfold cb; rw [h]; rfl
    rw [hc]
    clear h hc
    go_enter Try.func67, Try.ntmps67
    go_wp2
    go_ret
    exact ⟨rfl, rfl⟩
end Go.Proofs.Ytlkokkbikkbaoaa
namespace Go.Proofs.Ytlkokkbikkbaoaa
set_option maxRecDepth 100000
open Go.RowKit
set_option maxHeartbeats 1600000 in
theorem value_float {ad : Addr} {c B r at_ : Nat} {deep : Int} {b : List UInt8} {w : World} (h : RdAt w r (some ad) b.length c at_ deep) (hr : Reads w B 1 (some ad) b.length (bys b)) (hB : B ≤ r) (hc : b.length ≤ c) (hl : b.length ≤ 1000000000)
    (hat : at_ + 9 ≤ b.length) (hv1 : readU ((b.drop at_).take 1) = 2) (v : Nat) (hv : readU ((b.drop (at_ + 1)).take 8) = v) (hcb : cb v = v) :
    Calls Try.prog 76 #[.pointer (some ⟨r, 0, none⟩)] w (ValRes w r ad b.length c (at_ + 9) deep (.agg #[.int .i64 2, .int .i64 0, .float .f64 v, .string ⟨#[]⟩, .slice none 0 0])) := by
  have hrl : r < w.heap.size := h.lt
  have hfb := fun n w => run_frombits n w
  replace hcb := Lib.hid hcb
  have hsf := fun a k x m w => run_store_float (P := Try.prog) a k x m w
  replace hv := Lib.hid hv
  replace hv1 := Lib.hid hv1
  go_enter Try.func76, Try.ntmps76
  go_wp2_with fail
  refine (number_ok (k := 1) (Blk.alloc h _) (hr.alloc (by omega) _) hB hc hl (by omega) (by omega) (by omega) 2 hv1.out).mono ?_
  rintro e w1 ⟨rfl, h1, hu1⟩
  dsimp only
  go_wp2_with fail
  have hz1 : Blk w1 w.heap.size 64 #[.int .i64 0, .int .i64 0, .float .f64 0, .string ⟨#[]⟩, .slice none 0 0] := (Blk.new w _ _).upd hu1 (by omega)
  have hzl := hz1.lt
  have hwl1 : w.heap.size < w1.heap.size := hzl
  refine (number_ok (k := 8) (at_ := at_ + 1) (Blk.alloc h1 _) ((hr.alloc (by omega) _ |>.upd hu1 (by omega) (by simp; omega)).alloc (by omega) _) hB hc hl (by omega) (by omega) (by omega) v hv.out).mono ?_
  rintro e w2 ⟨rfl, h2, hu2⟩
  dsimp only
  have hz2 : Blk w2 w.heap.size 64 #[.int .i64 0, .int .i64 0, .float .f64 0, .string ⟨#[]⟩, .slice none 0 0] := (hz1.alloc _).upd hu2 (by omega)
  have hv2 : Blk w2 w1.heap.size 64 #[.int .i64 2, .int .i64 0, .float .f64 0, .string ⟨#[]⟩, .slice none 0 0] := (Blk.new w1 _ _).upd hu2 (by omega)
  have hu : Upd (fun x => x = r) w w2 := (((Upd.refl _ w).alloc _).trans hu1 (fun _ _ h => h)).alloc _ |>.trans hu2 (fun _ _ h => h)
  have c0 := hz2.cell 0
  have c1 := hz2.cell 1
  have c2 := hz2.cell 2
  have c3 := hz2.cell 3
  have c4 := hz2.cell 4
  have d0 := hv2.cell 0
  have d1 := hv2.cell 1
  have d2 := hv2.cell 2
  have d3 := hv2.cell 3
  have d4 := hv2.cell 4
  have f0 := hz2.frozen
  have f1 := hv2.frozen
  have hne : w.heap.size ≠ w1.heap.size := by omega
  have hrz : r ≠ w.heap.size := by omega
  have hry : r ≠ w1.heap.size := by omega
  have hnz : ¬ w.heap.size < w.heap.size := by omega
  have hny : ¬ w1.heap.size < w.heap.size := by omega
  replace h2 := Lib.hid h2
  replace hu := Lib.hid hu
  generalize hzw : w.heap.size = z at *
  generalize w1.heap.size = y at *
  replace hzw := Lib.hid hzw
  go_wp2_with fail
  refine (num_bits v _).mono ?_
  rintro e w3 ⟨rfl, rfl⟩
  dsimp only
  rw [hcb.out]
  go_wp2_with fail
  refine (must_ok _).mono ?_
  rintro e w3 ⟨rfl, rfl⟩
  dsimp only
  go_wp2_with fail
  have hzf := (((((hz2.far (p := ⟨y, 2, none⟩) hne (.float .f64 v)).set_ 0 (.int .i64 2)).set_ 1 (.int .i64 0)).set_ 2 (.float .f64 v)).set_ 3 (.string ⟨#[]⟩)).set_ 4 (.slice none 0 0)
  have hRf := (((((Blk.far h2.out (p := ⟨y, 2, none⟩) hry (.float .f64 v)).far (p := ⟨z, 0, none⟩) hrz (.int .i64 2)).far (p := ⟨z, 1, none⟩) hrz (.int .i64 0)).far (p := ⟨z, 2, none⟩) hrz (.float .f64 v)).far (p := ⟨z, 3, none⟩) hrz (.string ⟨#[]⟩)).far (p := ⟨z, 4, none⟩) hrz (.slice none 0 0)
  have hUf := (((((hu.out.setCell (p := ⟨y, 2, none⟩) (fun h => absurd (hzw.out ▸ h) hny) (.float .f64 v)).setCell (p := ⟨z, 0, none⟩) (fun h => absurd (hzw.out ▸ h) hnz) (.int .i64 2)).setCell (p := ⟨z, 1, none⟩) (fun h => absurd (hzw.out ▸ h) hnz) (.int .i64 0)).setCell (p := ⟨z, 2, none⟩) (fun h => absurd (hzw.out ▸ h) hnz) (.float .f64 v)).setCell (p := ⟨z, 3, none⟩) (fun h => absurd (hzw.out ▸ h) hnz) (.string ⟨#[]⟩)).setCell (p := ⟨z, 4, none⟩) (fun h => absurd (hzw.out ▸ h) hnz) (.slice none 0 0)
  refine bodyPost_ret ?hr rfl ⟨rfl, hRf, hUf⟩
  case hr => exact results_cell_row rfl _ _ z 64 _ (0, 0) _ rfl hzf Try.underlying64 rfl (by kernel_rfl)
set_option maxHeartbeats 1600000 in
theorem value_float_no {ad : Addr} {c B r at_ : Nat} {deep : Int} {b : List UInt8} {w : World} (h : RdAt w r (some ad) b.length c at_ deep) (hr : Reads w B 1 (some ad) b.length (bys b)) (hB : B ≤ r) (hc : b.length ≤ c) (hl : b.length ≤ 1000000000)
    (hat : at_ + 9 ≤ b.length) (hv1 : readU ((b.drop at_).take 1) = 2) (v : Nat) (hv : readU ((b.drop (at_ + 1)).take 8) = v) (hcb : cb v ≠ v) :
    Calls Try.prog 76 #[.pointer (some ⟨r, 0, none⟩)] w (fun e w' => e = .panicked shortP ∧ Upd (fun x => x = r) w w') := by
  have hrl : r < w.heap.size := h.lt
  have hfb := fun n w => run_frombits n w
  replace hcb := Lib.hid hcb
  have hsf := fun a k x m w => run_store_float (P := Try.prog) a k x m w
  replace hv := Lib.hid hv
  replace hv1 := Lib.hid hv1
  go_enter Try.func76, Try.ntmps76
  go_wp2_with fail
  refine (number_ok (k := 1) (Blk.alloc h _) (hr.alloc (by omega) _) hB hc hl (by omega) (by omega) (by omega) 2 hv1.out).mono ?_
  rintro e w1 ⟨rfl, h1, hu1⟩
  dsimp only
  go_wp2_with fail
  have hz1 : Blk w1 w.heap.size 64 #[.int .i64 0, .int .i64 0, .float .f64 0, .string ⟨#[]⟩, .slice none 0 0] := (Blk.new w _ _).upd hu1 (by omega)
  have hzl := hz1.lt
  have hwl1 : w.heap.size < w1.heap.size := hzl
  refine (number_ok (k := 8) (at_ := at_ + 1) (Blk.alloc h1 _) ((hr.alloc (by omega) _ |>.upd hu1 (by omega) (by simp; omega)).alloc (by omega) _) hB hc hl (by omega) (by omega) (by omega) v hv.out).mono ?_
  rintro e w2 ⟨rfl, h2, hu2⟩
  dsimp only
  have hz2 : Blk w2 w.heap.size 64 #[.int .i64 0, .int .i64 0, .float .f64 0, .string ⟨#[]⟩, .slice none 0 0] := (hz1.alloc _).upd hu2 (by omega)
  have hv2 : Blk w2 w1.heap.size 64 #[.int .i64 2, .int .i64 0, .float .f64 0, .string ⟨#[]⟩, .slice none 0 0] := (Blk.new w1 _ _).upd hu2 (by omega)
  have hu : Upd (fun x => x = r) w w2 := (((Upd.refl _ w).alloc _).trans hu1 (fun _ _ h => h)).alloc _ |>.trans hu2 (fun _ _ h => h)
  have c0 := hz2.cell 0
  have c1 := hz2.cell 1
  have c2 := hz2.cell 2
  have c3 := hz2.cell 3
  have c4 := hz2.cell 4
  have d0 := hv2.cell 0
  have d1 := hv2.cell 1
  have d2 := hv2.cell 2
  have d3 := hv2.cell 3
  have d4 := hv2.cell 4
  have f0 := hz2.frozen
  have f1 := hv2.frozen
  have hne : w.heap.size ≠ w1.heap.size := by omega
  have hrz : r ≠ w.heap.size := by omega
  have hry : r ≠ w1.heap.size := by omega
  have hnz : ¬ w.heap.size < w.heap.size := by omega
  have hny : ¬ w1.heap.size < w.heap.size := by omega
  replace h2 := Lib.hid h2
  replace hu := Lib.hid hu
  generalize hzw : w.heap.size = z at *
  generalize w1.heap.size = y at *
  replace hzw := Lib.hid hzw
  go_wp2_with fail
  refine (num_bits v _).mono ?_
  rintro e w3 ⟨rfl, rfl⟩
  dsimp only
  have hneI : ((cb v : Nat) : Int) ≠ (v : Int) := by have := hcb.out; omega
  have hneB : (((cb v : Nat) : Int) == (v : Int)) = false := by rw [beq_eq_false_iff_ne]; exact hneI
  generalize ((cb v : Nat) : Int) = cv at hneI hneB ⊢
  go_wp2_with fail
  refine (must_no _).mono ?_
  rintro e w3 ⟨rfl, rfl⟩
  dsimp only
  go_wp2_with fail
  exact ⟨rfl, rfl, hu.out.setCell (p := ⟨y, 2, none⟩) (fun h => absurd (hzw.out ▸ h) hny) (.float .f64 v)⟩
set_option maxHeartbeats 800000 in
theorem put_float {A : Option Addr} {c : Nat} {bs r : List UInt8} {k i : Int} {f : Nat} {s : ByteArray} {A' : Option Addr} {n' c' : Nat} {w : World} (hk : k = 2) (h : Own w 5 1 A bs.length c (bys bs)) (hl : bs.length ≤ 1000000000) (hf : cb f < 18446744073709551616) (hr : bs ++ (2 :: putU (cb f) 8) = r) :
    Calls Try.prog 53 #[.slice A bs.length c, .agg #[.int .i64 k, .int .i64 i, .float .f64 f, .string s, .slice A' n' c']] w (PutBytes w A r) := by
  subst hk
  obtain ⟨i0, hi, hz0, hz1, hz2⟩ := info_parts info_u8
  obtain ⟨q, hq⟩ : ∃ q, bs ++ [2] = q := ⟨_, rfl⟩
  have hql : bs.length + 1 = q.length := by rw [← hq]; simp
  have hqr : q ++ putU (cb f) 8 = r := by rw [← hr, ← hq]; simp
  have hqb : bys bs ++ [.int .u8 2] = bys q := by rw [← hq, bys_append]; rfl
  have hqbl : q.length ≤ 1000000100 := by omega
  replace hf := Lib.hid hf
  clear hr
  replace hq := Lib.hid hq
  replace hql := Lib.hid hql
  replace hqr := Lib.hid hqr
  replace hqb := Lib.hid hqb
  go_enter Try.func53, Try.ntmps53
  have hb := Blk.new w 64 #[.int .i64 2, .int .i64 i, .float .f64 f, .string s, .slice A' n' c']
  have hsrc := Reads.lit (size := 1) (w.alloc (.cells #[.int .i64 2, .int .i64 i, .float .f64 f, .string s, .slice A' n' c'] 64)) #[.int .u8 2] 5 (0, 0) 1 [.int .u8 2] rfl rfl
  have hew : (w.alloc (.cells #[.int .i64 2, .int .i64 i, .float .f64 f, .string s, .slice A' n' c'] 64)).heap.size = w.heap.size + 1 := by simp
  rw [hew] at hsrc
  replace hew := Lib.hid hew
  replace hb := Lib.hid hb
  go_wp2_with (at_builtin; go_must (refine wpList_append_mine rfl _ _ 26 26 rfl 5 i0 (.int .u8 0) 1 1 Try.underlying26 hi hz0 hz1 hz2 rfl rfl ((h.alloc _).alloc _) rfl (Src.ofReads Try.underlying26 _ hsrc (by intro u hu; simp at hu; subst hu; rfl)) ?b1 ?b2 ?grow))
  case b1 => unfold maxLen; omega
  case b2 => omega
  case grow =>
    intro A3 c3 w3 ho3 hg3 hat3
    rw [hqb.out, hql.out] at ho3
    rw [hql.out]
    have hb1 := (hb.out.alloc (.cells #[.int .u8 2] 5)).grown hg3 (fun e => absurd (h.lt e.symm) (Nat.lt_irrefl _))
    have hu3 : Upd (fun x => some x = bOf A) w w3 := (((Upd.refl _ w).alloc _).alloc _).grown hg3 (fun k e _ => e.symm)
    have hf3 : bOf A3 = bOf A ∨ ∀ g, bOf A3 = some g → w.heap.size ≤ g := by
      rcases hat3 with e | e
      · exact .inl e
      · right; intro g hg; rw [e] at hg; simp at hg; omega
    clear hat3 hg3 hsrc
    have e0 := hb1.cell 0
    have e1 := hb1.cell 1
    have e2 := hb1.cell 2
    go_wp2_with fail
    refine (num_bits f _).mono ?_
    rintro e w3' ⟨rfl, rfl⟩
    dsimp only
    go_wp2_with fail
    refine (wire_put (m := 8) ho3.reads_ (Nat.le_refl _) (by omega) hf.out).mono ?_
    rw [show n8 8 = 8 from rfl, hqr.out]
    rintro e w4 ⟨A4, c4, rfl, ho4, hb4, hg4⟩
    dsimp only
    go_wp2_with fail
    go_ret
    exact ⟨A4, c4, rfl, ho4, hu3.thenBelow hb4 hu3.size, .inr fun g hg => Nat.le_trans hu3.size (hg4 g hg)⟩
end Go.Proofs.Ytlkokkbikkbaoaa
namespace Go.Proofs.Ytlkokkbikkbaoaa
set_option maxRecDepth 100000
open Go.RowKit
theorem take_putU {v k : Nat} (l : List UInt8) : (putU v k ++ l).take k = putU v k := by
  have := List.take_left (l₁ := putU v k) (l₂ := l)
  rwa [putU_len] at this
theorem drop_putU {v k : Nat} (l : List UInt8) : (putU v k ++ l).drop k = l := by
  have := List.drop_left (l₁ := putU v k) (l₂ := l)
  rwa [putU_len] at this
end Go.Proofs.Ytlkokkbikkbaoaa
namespace Go.Proofs.Ytlkokkbikkbaoaa
set_option maxRecDepth 100000
open Go.RowKit
inductive Val where
  | mk (k i : Int) (f : Nat) (s : List UInt8) (l : List Val)
def pl (p : List UInt8 → Option (Val × Nat)) : Nat → List UInt8 → Option (List Val × Nat)
  | 0, _ => some ([], 0)
  | n + 1, b => match p b with
    | none => none
    | some (v, m) => match pl p n (b.drop m) with
      | none => none
      | some (l, m') => some (v :: l, m + m')
/-- The value ahead of bytes, lists in one another at most d deep, and how many bytes it takes. -/
def pv : Nat → List UInt8 → Option (Val × Nat)
  | _, [] => none
  | d, k :: t =>
    if k.toNat = 0 then some (.mk 0 0 0 [] [], 1)
    else if k.toNat = 1 then (if t.length < 8 then none else some (.mk 1 (wrap64 (readU (t.take 8))) 0 [] [], 9))
    else if k.toNat = 2 then (if t.length < 8 then none else if cb (readU (t.take 8)) = readU (t.take 8) then some (.mk 2 0 (readU (t.take 8)) [] [], 9) else none)
    else if k.toNat = 3 then (if (readT t 256).2.2 = 0 then some (.mk 3 0 0 (readT t 256).1 [], 1 + (readT t 256).2.1) else none)
    else if k.toNat = 4 then
      match d, t with
      | 0, _ => none
      | _ + 1, [] => none
      | d + 1, n :: u => if 64 < n.toNat then none else match pl (pv d) n.toNat u with
        | none => none
        | some (l, m) => some (.mk 4 0 0 [] l, 2 + m)
    else none
/-- A value that the machine holds: each list in a row of its own, in blocks of P. -/
inductive VOwn (w : World) (P : Nat → Prop) : Val → Array Value → Prop
  | mk {k i : Int} {f : Nat} {s : List UInt8} {l : List Val} {A : Option Addr} {c : Nat} {xs : List Value} (css : Nat → Array Value) (hn : l.length ≤ 2199023255488) (ho : Own w 64 5 A l.length c xs) (hP : ∀ g, bOf A = some g → P g)
      (hx : ∀ (j : Nat) (v : Val), l[j]? = some v → VOwn w P v (css j)) (hxs : ∀ j, j < l.length → (xs.drop (j * 5)).take 5 = (css j).toList) :
      VOwn w P (.mk k i f s l) #[.int .i64 k, .int .i64 i, .float .f64 f, .string (bstr s), .slice A l.length c]
theorem VOwn.upd {w w' : World} {P S : Nat → Prop} {v : Val} {cs : Array Value} (h : VOwn w P v cs) (hu : Upd S w w') (hs : ∀ g, P g → ¬ S g) : VOwn w' P v cs := by
  induction h with
  | mk css hn ho hP hx hxs ih => exact .mk css hn (ho.upd hu fun g hg => hs g (hP g hg)) hP (fun j v hv => ih j v hv) hxs
theorem VOwn.mono {w : World} {P Q : Nat → Prop} {v : Val} {cs : Array Value} (h : VOwn w P v cs) (hq : ∀ g, g < w.heap.size → P g → Q g) : VOwn w Q v cs := by
  induction h with
  | mk css hn ho hP hx hxs ih => exact .mk css hn ho (fun g hg => hq g (ho.lt hg) (hP g hg)) (fun j v hv => ih j v hv) hxs
theorem VOwn.size {w : World} {P : Nat → Prop} {v : Val} {cs : Array Value} (h : VOwn w P v cs) : cs.size = 5 := by
  cases h with
  | mk css hn ho hP hx hxs => rfl
theorem VOwn.one {w : World} {P : Nat → Prop} {v : Val} {cs : Array Value} (h : VOwn w P v cs) : ∀ u ∈ cs.toList, u.oneCell' = true := by
  cases h with
  | mk css hn ho hP hx hxs =>
    intro u hu
    simp at hu
    rcases hu with rfl | rfl | rfl | rfl | rfl <;> rfl
theorem VOwn.flat (w : World) (P : Nat → Prop) (k i : Int) (f : Nat) (s : List UInt8) : VOwn w P (.mk k i f s []) #[.int .i64 k, .int .i64 i, .float .f64 f, .string (bstr s), .slice none 0 0] :=
  .mk (l := []) (fun _ => #[]) (by simp) Own.none_ (by simp [bOf]) (by simp) (by simp)
end Go.Proofs.Ytlkokkbikkbaoaa
namespace Go.Proofs.Ytlkokkbikkbaoaa
set_option maxRecDepth 100000
open Go.RowKit
/-- What value() does at bytes that say o. -/
def PRes (w : World) (r : Nat) (ad : Addr) (n c at_ : Nat) (deep : Int) (o : Option (Val × Nat)) (e : Ending) (w' : World) : Prop :=
  match o with
  | some (v, m) => ∃ cs, e = .returned (.agg cs) ∧ VOwn w' (fun g => w.heap.size ≤ g) v cs ∧ RdAt w' r (some ad) n c (at_ + m) deep ∧ Upd (fun x => x = r) w w'
  | none => e = .panicked shortP ∧ Upd (fun x => x = r) w w'
theorem value_end {ad : Addr} {n c r at_ : Nat} {deep : Int} {w : World} (h : RdAt w r (some ad) n c at_ deep) (hc : n ≤ c) (hl : n ≤ 1000000000) (hat : at_ = n) :
    Calls Try.prog 76 #[.pointer (some ⟨r, 0, none⟩)] w (fun e w' => e = .panicked shortP ∧ Upd (fun x => x = r) w w') := by
  replace hat := Lib.hid hat
  go_enter Try.func76, Try.ntmps76
  go_wp2_with fail
  refine (number_no (k := 1) (Blk.alloc h _) (by simp) hc hl (by omega) (by rw [hat.out]; exact Nat.le_refl _) (by rw [hat.out]; omega)).mono ?_
  rintro e w1 ⟨rfl, hb1⟩
  dsimp only
  go_wp2_with fail
  exact ⟨rfl, rfl, ((Upd.refl _ w).alloc _).trans ((Upd.refl _ _).thenBelow hb1 (Nat.le_refl _)) (fun _ _ h => h)⟩
set_option maxHeartbeats 1600000 in
theorem value_nil {ad : Addr} {c B r at_ : Nat} {deep : Int} {b : List UInt8} {w : World} (h : RdAt w r (some ad) b.length c at_ deep) (hr : Reads w B 1 (some ad) b.length (bys b)) (hB : B ≤ r) (hc : b.length ≤ c) (hl : b.length ≤ 1000000000)
    (hat : at_ + 1 ≤ b.length) (hv1 : readU ((b.drop at_).take 1) = 0) :
    Calls Try.prog 76 #[.pointer (some ⟨r, 0, none⟩)] w (ValRes w r ad b.length c (at_ + 1) deep (.agg #[.int .i64 0, .int .i64 0, .float .f64 0, .string ⟨#[]⟩, .slice none 0 0])) := by
  have hrl : r < w.heap.size := h.lt
  have hsf := fun a k x m w => run_store_float (P := Try.prog) a k x m w
  replace hv1 := Lib.hid hv1
  go_enter Try.func76, Try.ntmps76
  go_wp2_with fail
  refine (number_ok (k := 1) (Blk.alloc h _) (hr.alloc (by omega) _) hB hc hl (by omega) (by omega) (by omega) 0 hv1.out).mono ?_
  rintro e w1 ⟨rfl, h1, hu1⟩
  dsimp only
  have hz1 : Blk w1 w.heap.size 64 #[.int .i64 0, .int .i64 0, .float .f64 0, .string ⟨#[]⟩, .slice none 0 0] := (Blk.new w _ _).upd hu1 (by omega)
  have hwl1 : w.heap.size < w1.heap.size := hz1.lt
  have hz2 := hz1.alloc (.cells #[.int .i64 0, .int .i64 0, .float .f64 0, .string ⟨#[]⟩, .slice none 0 0] 64)
  have hy2 := Blk.new w1 64 #[.int .i64 0, .int .i64 0, .float .f64 0, .string ⟨#[]⟩, .slice none 0 0]
  have h2 := Blk.alloc h1 (.cells #[.int .i64 0, .int .i64 0, .float .f64 0, .string ⟨#[]⟩, .slice none 0 0] 64)
  have hu : Upd (fun x => x = r) w (w1.alloc (.cells #[.int .i64 0, .int .i64 0, .float .f64 0, .string ⟨#[]⟩, .slice none 0 0] 64)) := (((Upd.refl _ w).alloc _).trans hu1 (fun _ _ h => h)).alloc _
  have hrz : r ≠ w.heap.size := by omega
  have hzf := hz2.row #[.int .i64 0, .int .i64 0, .float .f64 0, .string ⟨#[]⟩, .slice none 0 0]
  have hRf := Blk.farRow h2 (g := w.heap.size) hrz #[.int .i64 0, .int .i64 0, .float .f64 0, .string ⟨#[]⟩, .slice none 0 0]
  have hUf := hu.setRow (g := w.heap.size) (fun h => absurd h (Nat.lt_irrefl _)) #[.int .i64 0, .int .i64 0, .float .f64 0, .string ⟨#[]⟩, .slice none 0 0]
  have d0 := hy2.cell 0
  have d1 := hy2.cell 1
  have d2 := hy2.cell 2
  have d3 := hy2.cell 3
  have d4 := hy2.cell 4
  replace hu := Lib.hid hu
  replace hz1 := Lib.hid hz1
  replace h2 := Lib.hid h2
  go_wp2_with (refine store_row_gen rfl 64 (Operand.tmp 2) _ rfl w.heap.size #[.int .i64 0, .int .i64 0, .float .f64 0, .string ⟨#[]⟩, .slice none 0 0] rfl rfl 64 _ hz2 (by kernel_rfl) rfl (by simp [Value.oneCell']) (fun w6 hw6 => ?_); rw [← hw6] at hzf hRf hUf; clear hw6 hz2 hy2)
  refine bodyPost_ret ?hr rfl ⟨rfl, hRf, hUf⟩
  case hr => exact results_cell_row rfl _ _ w.heap.size 64 _ (0, 0) _ rfl hzf Try.underlying64 rfl (by kernel_rfl)
set_option maxHeartbeats 1600000 in
theorem value_num_no {ad : Addr} {c B r at_ : Nat} {deep : Int} {b : List UInt8} {w : World} (h : RdAt w r (some ad) b.length c at_ deep) (hr : Reads w B 1 (some ad) b.length (bys b)) (hB : B ≤ r) (hc : b.length ≤ c) (hl : b.length ≤ 1000000000)
    (hat : at_ + 1 ≤ b.length) (v : Nat) (hv : readU ((b.drop at_).take 1) = v) (hv12 : v = 1 ∨ v = 2) (hno : b.length < at_ + 9) :
    Calls Try.prog 76 #[.pointer (some ⟨r, 0, none⟩)] w (fun e w' => e = .panicked shortP ∧ Upd (fun x => x = r) w w') := by
  have hrl : r < w.heap.size := h.lt
  have hsf := fun a k x m w => run_store_float (P := Try.prog) a k x m w
  replace hv := Lib.hid hv
  rcases hv12 with rfl | rfl
  all_goals
    go_enter Try.func76, Try.ntmps76
    go_wp2_with fail
    refine (number_ok (k := 1) (Blk.alloc h _) (hr.alloc (by omega) _) hB hc hl (by omega) (by omega) (by omega) _ hv.out).mono ?_
    rintro e w1 ⟨rfl, h1, hu1⟩
    dsimp only
    have hu := ((Upd.refl (fun x => x = r) w).alloc (.cells #[.int .i64 0, .int .i64 0, .float .f64 0, .string ⟨#[]⟩, .slice none 0 0] 64)).trans hu1 (fun _ _ h => h)
    go_wp2_with fail
    refine (number_no (k := 8) (Blk.alloc h1 _) (by simp) hc hl (by omega) (by omega) (by omega)).mono ?_
    rintro e w2 ⟨rfl, hb2⟩
    dsimp only
    go_wp2_with fail
    exact ⟨rfl, rfl, (hu.alloc _).thenBelow hb2 (hu.alloc _).size⟩
end Go.Proofs.Ytlkokkbikkbaoaa
namespace Go.Proofs.Ytlkokkbikkbaoaa
set_option maxRecDepth 100000
open Go.RowKit
set_option maxHeartbeats 1600000 in
theorem value_text {ad : Addr} {c B r at_ : Nat} {deep : Int} {b : List UInt8} {w : World} (h : RdAt w r (some ad) b.length c at_ deep) (hr : Reads w B 1 (some ad) b.length (bys b)) (hB : B ≤ r) (hc : b.length ≤ c) (hl : b.length ≤ 1000000000)
    (hat : at_ + 1 < b.length) (hv1 : readU ((b.drop at_).take 1) = 3) (t : List UInt8 × Nat × Nat) (ht : readT (b.drop (at_ + 1)) 256 = t) (o : Option (Val × Nat)) (ho : o = if t.2.2 = 0 then some (.mk 3 0 0 t.1 [], 1 + t.2.1) else none) (hte : t.2.2 = 0 ∨ t.2.2 = 20) (htn : t.2.1 ≤ 1000) :
    Calls Try.prog 76 #[.pointer (some ⟨r, 0, none⟩)] w (PRes w r ad b.length c at_ deep o) := by
  have hrl : r < w.heap.size := h.lt
  have hsf := fun a k x m w => run_store_float (P := Try.prog) a k x m w
  replace hv1 := Lib.hid hv1
  replace ht := Lib.hid ht
  replace ho := Lib.hid ho
  go_enter Try.func76, Try.ntmps76
  go_wp2_with fail
  refine (number_ok (k := 1) (Blk.alloc h _) (hr.alloc (by omega) _) hB hc hl (by omega) (by omega) (by omega) 3 hv1.out).mono ?_
  rintro e w1 ⟨rfl, h1, hu1⟩
  dsimp only
  have hz1 : Blk w1 w.heap.size 64 #[.int .i64 0, .int .i64 0, .float .f64 0, .string ⟨#[]⟩, .slice none 0 0] := (Blk.new w _ _).upd hu1 (by omega)
  have hwl1 : w.heap.size < w1.heap.size := hz1.lt
  have hr1 := (hr.alloc (by omega) (.cells #[.int .i64 0, .int .i64 0, .float .f64 0, .string ⟨#[]⟩, .slice none 0 0] 64)).upd hu1 (by omega) (by simp; omega)
  have hu := ((Upd.refl (fun x => x = r) w).alloc (.cells #[.int .i64 0, .int .i64 0, .float .f64 0, .string ⟨#[]⟩, .slice none 0 0] 64)).trans hu1 (fun _ _ h => h)
  have hz2 := hz1.alloc (.cells #[.int .i64 3, .int .i64 0, .float .f64 0, .string ⟨#[]⟩, .slice none 0 0] 64)
  have hy2 := Blk.new w1 64 #[.int .i64 3, .int .i64 0, .float .f64 0, .string ⟨#[]⟩, .slice none 0 0]
  have h2 := Blk.alloc h1 (.cells #[.int .i64 3, .int .i64 0, .float .f64 0, .string ⟨#[]⟩, .slice none 0 0] 64)
  have hu2 := hu.alloc (.cells #[.int .i64 3, .int .i64 0, .float .f64 0, .string ⟨#[]⟩, .slice none 0 0] 64)
  have hr2 := hr1.alloc (by omega) (.cells #[.int .i64 3, .int .i64 0, .float .f64 0, .string ⟨#[]⟩, .slice none 0 0] 64)
  have hs2 : (w1.alloc (.cells #[.int .i64 3, .int .i64 0, .float .f64 0, .string ⟨#[]⟩, .slice none 0 0] 64)).heap.size = w1.heap.size + 1 := by simp
  clear hz1 hr1 hu h1 hu1
  go_wp2_with fail
  generalize w1.alloc (.cells #[.int .i64 3, .int .i64 0, .float .f64 0, .string ⟨#[]⟩, .slice none 0 0] 64) = w2 at *
  generalize w1.heap.size = y at *
  obtain ⟨m, hm⟩ : ∃ m, b.length = m := ⟨_, rfl⟩
  obtain ⟨d, hd⟩ : ∃ d, b.drop (at_ + 1) = d := ⟨_, rfl⟩
  have hdl : d.length = m - (at_ + 1) := by rw [← hd, List.length_drop, hm]
  have hcut := hr2.cut (k := at_ + 1) (cap := c) (by omega) hc
  rw [if_neg (by omega), Nat.mul_one, bys_drop, hd, hm, ← hdl] at hcut
  have hcut : Reads w2 B 1 (some (ad.add (at_ + 1))) d.length (bys d) := hcut
  have ht2 := ht.out
  rw [hd] at ht2
  rw [hm] at h2 hc hl hat ⊢
  replace ht2 := Lib.hid ht2
  replace hdl := Lib.hid hdl
  have hmi := Lib.hid hm
  clear ht hd hm hr hr2 hv1
  have hS : w2.drew.cell? ⟨r, 0, none⟩ = some (.slice (some ad) m c) ∧ w2.drew.cell? ⟨r, 1, none⟩ = some (.int .i64 ((at_ + 1 : Nat) : Int)) ∧ Below w2.heap.size w2 w2.drew := ⟨Blk.cell h2 0, Blk.cell h2 1, (Below.refl _ _).drew⟩
  have hac : at_ + 1 < c := by omega
  have hcast : ((at_ + 1 : Nat) : Int) = (at_ : Int) + 1 := by omega
  replace hcast := Lib.hid hcast
  obtain ⟨a1, ha1⟩ : ∃ a1, at_ + 1 = a1 := ⟨_, rfl⟩
  rw [ha1] at hS hac hcut hat h2
  replace ha1 := Lib.hid ha1
  have ham : a1 ≤ m := by omega
  have hmc : m ≤ c := hc
  refine wp_region_lex (fun W => W.cell? ⟨r, 0, none⟩ = some (.slice (some ad) m c) ∧ W.cell? ⟨r, 1, none⟩ = some (.int .i64 (a1 : Int)) ∧ Below w2.heap.size w2 W) [3, 7] [9] [0, 1, 2, 3, 4, 5, 6, 7, 8, 9, 10, 11, 12, 13, 14, 15, 16] (by kernel_rfl) rfl (by kernel_rfl) (by kernel_rfl) (fun _ _ d _ _ h => by cases d <;> exact h) ?_
  repeat (first | (refine lexG_take _ ?_ rfl rfl rfl rfl (fun _ => ?_) ?_; rotate_left; (focus (go_simp; with_reducible rfl)); try simp only [Act.put, List.setIfInBounds_toArray, List.set_cons_zero, List.set_cons_succ]) | (refine lexG_held _ ?_ rfl rfl rfl rfl (by assumption) (fun _ hSw => ?_) ?_; rotate_left; (focus ((try dsimp only at hSw); go_simp; with_reducible rfl)); try simp only [Act.put, List.setIfInBounds_toArray, List.set_cons_zero, List.set_cons_succ]) | (refine lexG_skip _ rfl rfl (by assumption) ?_; try simp only [Act.put, List.setIfInBounds_toArray, List.set_cons_zero, List.set_cons_succ]))
  refine lexG_now _ rfl rfl rfl (fun K hK => ?_)
  go_wp2_with fail
  have hdl2 := hdl.out
  rw [ha1.out] at hdl2
  rw [← hdl2]
  have hrt : r < w2.heap.size := Blk.lt h2
  refine (read_text (hcut.drew.more (by simp; omega)) (by omega) (by omega) ht2.out).mono ?_
  rintro e w3 ⟨rfl, hb3⟩
  dsimp only
  have hS3 : w3.cell? ⟨r, 0, none⟩ = some (.slice (some ad) m c) ∧ w3.cell? ⟨r, 1, none⟩ = some (.int .i64 (a1 : Int)) ∧ Below w2.heap.size w2 w3 := ⟨(hb3.cell (by show r < _; simpa using hrt)).trans hS.1, (hb3.cell (by show r < _; simpa using hrt)).trans hS.2.1, below_then hb3 hS.2.2⟩
  refine hK _ _ _ (fun _ h => h) hS3 ?_
  clear hK K hS hb3 hcut hdl2
  try simp only [Act.put, List.setIfInBounds_toArray, List.set_cons_zero, List.set_cons_succ]
  repeat (first | (refine lexG_take _ ?_ rfl rfl rfl rfl (fun _ => ?_) ?_; rotate_left; (focus (go_simp; with_reducible rfl)); try simp only [Act.put, List.setIfInBounds_toArray, List.set_cons_zero, List.set_cons_succ]) | (refine lexG_held _ ?_ rfl rfl rfl rfl (by assumption) (fun _ hSw => ?_) ?_; rotate_left; (focus ((try dsimp only at hSw); go_simp; with_reducible rfl)); try simp only [Act.put, List.setIfInBounds_toArray, List.set_cons_zero, List.set_cons_succ]) | (refine lexG_skip _ rfl rfl (by assumption) ?_; try simp only [Act.put, List.setIfInBounds_toArray, List.set_cons_zero, List.set_cons_succ]))
  refine lexG_nil ?_
  have h3 : RdAt w3 r (some ad) m c a1 deep := Blk.below h2 hS3.2.2 hrt
  have hz3 := hz2.below hS3.2.2 hz2.lt
  have hy3 := hy2.below hS3.2.2 hy2.lt
  have hu3 := hu2.thenBelow hS3.2.2 hu2.size
  have q1 := Blk.cell h3 1
  have hfr := Blk.frozen h3
  clear h2 hz2 hy2 hu2 hS3
  rcases hte with h0 | h20
  · have ho' := ho.out
    rw [if_pos h0] at ho'
    obtain ⟨s, n, e0⟩ := t
    dsimp only at h0 htn ho' ⊢
    subst h0
    replace ho' := Lib.hid ho'
    go_wp2_with fail
    refine (must_ok w3).mono ?_
    rintro e w4 ⟨rfl, rfl⟩
    dsimp only
    have g0 := hy3.cell 0
    have g1 := hy3.cell 1
    have g2 := hy3.cell 2
    have g3 := hy3.cell 3
    have g4 := hy3.cell 4
    have gf := hy3.frozen
    have hry : r ≠ y := by omega
    have hzy : w.heap.size ≠ y := by omega
    have hrz : r ≠ w.heap.size := by omega
    have hzs := ((hz3.far (p := ⟨y, 3, none⟩) hzy (.string (bstr s))).far (p := ⟨r, 1, none⟩) hrz.symm (.int .i64 ((a1 : Int) + (n : Int))))
    have hys := ((hy3.set_ 3 (.string (bstr s))).far (p := ⟨r, 1, none⟩) hry.symm (.int .i64 ((a1 : Int) + (n : Int))))
    have hRs := ((Blk.far h3 (p := ⟨y, 3, none⟩) hry (.string (bstr s))).set_ 1 (.int .i64 ((a1 : Int) + (n : Int))))
    have hus := (hu3.setCell (p := ⟨y, 3, none⟩) (fun h => absurd h (by show ¬ y < _; omega)) (.string (bstr s))).setCell (p := ⟨r, 1, none⟩) (fun _ => rfl) (.int .i64 ((a1 : Int) + (n : Int)))
    have hzf := hzs.row #[.int .i64 3, .int .i64 0, .float .f64 0, .string (bstr s), .slice none 0 0]
    have hRf := Blk.farRow hRs (g := w.heap.size) hrz #[.int .i64 3, .int .i64 0, .float .f64 0, .string (bstr s), .slice none 0 0]
    have hUf := hus.setRow (g := w.heap.size) (fun h => absurd h (Nat.lt_irrefl _)) #[.int .i64 3, .int .i64 0, .float .f64 0, .string (bstr s), .slice none 0 0]
    replace hRs := Lib.hid hRs
    replace hus := Lib.hid hus
    replace hys := Lib.hid hys
    replace h3 := Lib.hid h3
    replace hu3 := Lib.hid hu3
    go_wp2_with (refine store_row_gen rfl 64 (Operand.tmp 2) _ rfl w.heap.size #[.int .i64 3, .int .i64 0, .float .f64 0, .string (bstr s), .slice none 0 0] rfl rfl 64 _ hzs (by kernel_rfl) rfl (by simp [Value.oneCell']) (fun w6 hw6 => ?_); rw [← hw6] at hzf hRf hUf; clear hw6 hzs)
    have e1 : (a1 : Int) + (n : Int) = ((at_ + (1 + n) : Nat) : Int) := by have := ha1.out; omega
    have hRg := hRf
    rw [e1] at hRg
    refine bodyPost_ret (v := .agg #[.int .i64 3, .int .i64 0, .float .f64 0, .string (bstr s), .slice none 0 0]) ?hr rfl ?_
    case hr => exact results_cell_row rfl _ _ w.heap.size 64 _ (0, 0) _ rfl hzf Try.underlying64 rfl (by kernel_rfl)
    rw [ho'.out, hmi.out]
    exact ⟨_, rfl, VOwn.flat _ _ _ _ _ _, hRg, hUf⟩
  · have ho' := ho.out
    rw [if_neg (by omega)] at ho'
    rw [h20]
    replace ho' := Lib.hid ho'
    go_wp2_with fail
    refine (must_no w3).mono ?_
    rintro e w4 ⟨rfl, rfl⟩
    dsimp only
    go_wp2_with fail
    refine ⟨rfl, ?_⟩
    rw [ho'.out]
    exact ⟨rfl, hu3⟩
end Go.Proofs.Ytlkokkbikkbaoaa
namespace Go.Proofs.Ytlkokkbikkbaoaa
set_option maxRecDepth 100000
open Go.RowKit
theorem info_val : (Try.prog.info? 64).map (fun i => (i.zero, i.size, i.bytes)) = some (some (.agg #[.int .i64 0, .int .i64 0, .float .f64 0, .string ⟨#[]⟩, .slice none 0 0]), 5, 64) := by kernel_rfl
theorem pl_none {p : List UInt8 → Option (Val × Nat)} {n : Nat} {b : List UInt8} (hn : 0 < n) (h : p b = none) : pl p n b = none := by
  obtain ⟨n, rfl⟩ : ∃ k, n = k + 1 := ⟨n - 1, by omega⟩
  simp [pl, h]
theorem pl_some {p : List UInt8 → Option (Val × Nat)} {n m : Nat} {v : Val} {b : List UInt8} (hn : 0 < n) (h : p b = some (v, m)) : pl p n b = (pl p (n - 1) (b.drop m)).map (fun x => (v :: x.1, m + x.2)) := by
  obtain ⟨n, rfl⟩ : ∃ k, n = k + 1 := ⟨n - 1, by omega⟩
  simp only [pl, h, Nat.add_sub_cancel]
  cases pl p n (b.drop m) with
  | none => rfl
  | some x => rfl
theorem pl_le {p : List UInt8 → Option (Val × Nat)} (hp : ∀ b v m, p b = some (v, m) → m ≤ b.length) : ∀ n b l m, pl p n b = some (l, m) → m ≤ b.length ∧ l.length = n := by
  intro n
  induction n with
  | zero =>
    intro b l m h
    simp only [pl, Option.some.injEq, Prod.mk.injEq] at h
    obtain ⟨rfl, rfl⟩ := h
    simp
  | succ n ih =>
    intro b l m h
    cases hb : p b with
    | none => rw [pl_none (by omega) hb] at h; cases h
    | some vm =>
      obtain ⟨v, m1⟩ := vm
      rw [pl_some (by omega) hb, Nat.add_sub_cancel] at h
      cases hb2 : pl p n (b.drop m1) with
      | none => rw [hb2] at h; cases h
      | some x =>
        rw [hb2] at h
        simp only [Option.map_some, Option.some.injEq, Prod.mk.injEq] at h
        obtain ⟨rfl, rfl⟩ := h
        have h1 := hp _ _ _ hb
        have h2 := ih _ _ _ hb2
        rw [List.length_drop] at h2
        exact ⟨by omega, by simp [h2.2]⟩
theorem readT_le (b : List UInt8) (m : Int) (h : (readT b m).2.2 = 0) : (readT b m).2.1 ≤ b.length := by
  unfold readT at *
  split at h
  · rename_i h2
    rw [if_pos h2]
    show 2 + _ ≤ _
    omega
  · cases h
theorem pv_le : ∀ (d : Nat) (b : List UInt8) (v : Val) (m : Nat), pv d b = some (v, m) → m ≤ b.length := by
  intro d
  induction d with
  | zero =>
    intro b v m h
    cases b with
    | nil => simp [pv] at h
    | cons k t =>
      unfold pv at h
      repeat' split at h
      all_goals first | (cases h; done) | skip
      all_goals (simp only [Option.some.injEq, Prod.mk.injEq] at h; obtain ⟨-, rfl⟩ := h; simp only [List.length_cons])
      all_goals first | omega | skip
      have := readT_le t 256 (by assumption)
      omega
  | succ d ih =>
    intro b v m h
    cases b with
    | nil => simp [pv] at h
    | cons k t =>
      unfold pv at h
      repeat' split at h
      all_goals first | (cases h; done) | skip
      all_goals first | (simp only [Option.some.injEq, Prod.mk.injEq] at h; obtain ⟨-, rfl⟩ := h; simp only [List.length_cons]) | skip
      all_goals first | omega | (have := readT_le t 256 (by assumption); omega) | skip
      all_goals
        rename_i h5 h4 h3 h2 h1 d1 t1 d2 n1 u1 heq1 h0 x1 l2 m2 heq2
        cases heq1
        have := (pl_le ih _ _ _ _ heq2).1
        omega
/-- The state of a list half read. -/
structure LRel (d : Nat) (b : List UInt8) (r : Nat) (ad : Addr) (c at_ n z y : Nat) (w : World) (i : Value) (wr : World) (j : Nat) (l1 : List Val) (A : Option Addr) (c' : Nat) (xs : List Value) (css : Nat → Array Value) (at' : Nat) : Prop where
  jn : j ≤ n
  jl : l1.length = j
  ii : i = .int .u64 (j : Int)
  rd : RdAt wr r (some ad) b.length c at' (d : Int)
  hat : at' ≤ b.length
  hz : Blk wr z 64 #[.int .i64 0, .int .i64 0, .float .f64 0, .string ⟨#[]⟩, .slice none 0 0]
  hy : Blk wr y 64 #[.int .i64 4, .int .i64 0, .float .f64 0, .string ⟨#[]⟩, .slice A j c']
  ho : Own wr 64 5 A j c' xs
  hA : ∀ g, bOf A = some g → y < g
  hx : ∀ k v, l1[k]? = some v → VOwn wr (fun g => y < g ∧ some g ≠ bOf A) v (css k)
  hxs : ∀ k, k < l1.length → (xs.drop (k * 5)).take 5 = (css k).toList
  hu : Upd (fun x => x = r) w wr
  hl : at_ + 2 ≤ at'
  pp : pl (pv d) n (b.drop (at_ + 2)) = (pl (pv d) (n - j) (b.drop at')).map (fun x => (l1 ++ x.1, (at' - (at_ + 2)) + x.2))
set_option maxHeartbeats 3200000 in
set_option maxRecDepth 100000 in
theorem value_list {d : Nat} {ad : Addr} {c B r at_ : Nat} {b : List UInt8} {w : World} (IH : ∀ (w : World) (at_ : Nat), RdAt w r (some ad) b.length c at_ (d : Int) → Reads w B 1 (some ad) b.length (bys b) → at_ ≤ b.length → Calls Try.prog 76 #[.pointer (some ⟨r, 0, none⟩)] w (PRes w r ad b.length c at_ (d : Int) (pv d (b.drop at_))))
    (h : RdAt w r (some ad) b.length c at_ ((d : Int) + 1)) (hr : Reads w B 1 (some ad) b.length (bys b)) (hB : B ≤ r) (hc : b.length ≤ c) (hl : b.length ≤ 1000000000) (hd : d ≤ 100)
    (hat : at_ + 2 ≤ b.length) (hv1 : readU ((b.drop at_).take 1) = 4) (n : Nat) (hn : readU ((b.drop (at_ + 1)).take 1) = n) (hn64 : n ≤ 64) (o : Option (Val × Nat)) (ho : o = (pl (pv d) n (b.drop (at_ + 2))).map (fun x => (.mk 4 0 0 [] x.1, 2 + x.2))) :
    Calls Try.prog 76 #[.pointer (some ⟨r, 0, none⟩)] w (PRes w r ad b.length c at_ ((d : Int) + 1) o) := by
  have hrl : r < w.heap.size := h.lt
  have hsf := fun a k x m w => run_store_float (P := Try.prog) a k x m w
  obtain ⟨i1, gi, gz0, gz1, gz2⟩ := info_parts info_val
  have hr0 := Lib.hid hr
  replace hv1 := Lib.hid hv1
  replace hn := Lib.hid hn
  replace ho := Lib.hid ho
  replace IH := Lib.hid IH
  go_enter Try.func76, Try.ntmps76
  go_wp2_with fail
  refine (number_ok (k := 1) (Blk.alloc h _) (hr.alloc (by omega) _) hB hc hl (by omega) (by omega) (by omega) 4 hv1.out).mono ?_
  rintro e w1 ⟨rfl, h1, hu1⟩
  dsimp only
  rw [show ((4 : Nat) : Int) = 4 from rfl]
  have hz1 : Blk w1 w.heap.size 64 #[.int .i64 0, .int .i64 0, .float .f64 0, .string ⟨#[]⟩, .slice none 0 0] := (Blk.new w _ _).upd hu1 (by omega)
  have hwl1 : w.heap.size < w1.heap.size := hz1.lt
  have hr1 := (hr.alloc (by omega) (.cells #[.int .i64 0, .int .i64 0, .float .f64 0, .string ⟨#[]⟩, .slice none 0 0] 64)).upd hu1 (by omega) (by simp; omega)
  have hu := ((Upd.refl (fun x => x = r) w).alloc (.cells #[.int .i64 0, .int .i64 0, .float .f64 0, .string ⟨#[]⟩, .slice none 0 0] 64)).trans hu1 (fun _ _ h => h)
  have hz2 := hz1.alloc (.cells #[.int .i64 4, .int .i64 0, .float .f64 0, .string ⟨#[]⟩, .slice none 0 0] 64)
  have hy2 := Blk.new w1 64 #[.int .i64 4, .int .i64 0, .float .f64 0, .string ⟨#[]⟩, .slice none 0 0]
  have h2 := Blk.alloc h1 (.cells #[.int .i64 4, .int .i64 0, .float .f64 0, .string ⟨#[]⟩, .slice none 0 0] 64)
  have hu2 := hu.alloc (.cells #[.int .i64 4, .int .i64 0, .float .f64 0, .string ⟨#[]⟩, .slice none 0 0] 64)
  have hr2 := hr1.alloc (by omega) (.cells #[.int .i64 4, .int .i64 0, .float .f64 0, .string ⟨#[]⟩, .slice none 0 0] 64)
  have hs2 : (w1.alloc (.cells #[.int .i64 4, .int .i64 0, .float .f64 0, .string ⟨#[]⟩, .slice none 0 0] 64)).heap.size = w1.heap.size + 1 := by simp
  clear hz1 hr1 hu h1 hu1 h hr
  have q2 := Blk.cell h2 2
  go_wp2_with fail
  generalize w1.alloc (.cells #[.int .i64 4, .int .i64 0, .float .f64 0, .string ⟨#[]⟩, .slice none 0 0] 64) = w2 at *
  generalize w1.heap.size = y at *
  refine (must_ok w2).mono ?_
  rintro e w3 ⟨rfl, rfl⟩
  dsimp only
  have fr2 := Blk.frozen h2 2
  have hry : r ≠ y := by omega
  have hrz : r ≠ w.heap.size := by omega
  have hzy : w.heap.size ≠ y := by omega
  have h3 : RdAt (w2.setCell ⟨r, 2, none⟩ (.int .i64 (d : Int))) r (some ad) b.length c (at_ + 1) (d : Int) := Blk.set_ h2 2 (.int .i64 (d : Int))
  have hz3 := hz2.far (p := ⟨r, 2, none⟩) hrz.symm (.int .i64 (d : Int))
  have hy3 := hy2.far (p := ⟨r, 2, none⟩) hry.symm (.int .i64 (d : Int))
  have hu3 := hu2.setCell (p := ⟨r, 2, none⟩) (fun _ => rfl) (.int .i64 (d : Int))
  have hr3 := hr2.setCell (p := ⟨r, 2, none⟩) hB (.int .i64 (d : Int))
  have hs3 : (w2.setCell ⟨r, 2, none⟩ (.int .i64 (d : Int))).heap.size = y + 1 := by simp [hs2]
  have hd1 : (d : Int) + 1 - 1 = (d : Int) := by omega
  clear hz2 hy2 hu2 hr2 hs2
  replace h2 := Lib.hid h2
  go_wp2_with fail
  generalize w2.setCell ⟨r, 2, none⟩ (.int .i64 (d : Int)) = w3 at *
  clear h2 q2 fr2 hd1 w2
  refine (number_ok (k := 1) h3 hr3 hB hc hl (by omega) (by omega) (by omega) n hn.out).mono ?_
  rintro e w4 ⟨rfl, h4, hu4'⟩
  dsimp only
  have hz4 := hz3.upd hu4' (by omega)
  have hy4 := hy3.upd hu4' (by omega)
  have hu4 := hu3.trans hu4' (fun _ _ h => h)
  have hr4 := hr3.upd hu4' (by omega) (by omega)
  have hs4 : y < w4.heap.size := hy4.lt
  clear hz3 hy3 hu3 hr3 hs3 h3 hu4'
  go_wp2_with fail
  rw [show decide ((n : Int) ≤ 64) = true from decide_eq_true (by omega)]
  refine (must_ok w4).mono ?_
  rintro e w5 ⟨rfl, rfl⟩
  dsimp only
  go_wp2_with fail
  obtain ⟨z, hz⟩ : ∃ z, w.heap.size = z := ⟨_, rfl⟩
  rw [hz] at hz4 hrl hrz hzy hwl1 ⊢
  replace hz := Lib.hid hz
  go_loopw [87] (fun i wr => ∃ j l1 A c' xs css at', LRel d b r ad c at_ n z y w i wr j l1 A c' xs css at') (fun i _ => n - (intOf i).toNat)
  case atStart => exact ⟨0, [], none, 0, [], fun _ => #[], at_ + 2, ⟨Nat.zero_le _, rfl, rfl, h4, hat, hz4, hy4, Own.none_, by simp [bOf], by simp, by simp, hu4, Nat.le_refl _, by simp⟩⟩
  case round =>
    rename_i hrel
    obtain ⟨j, l1, A, c', xs, css, at', R⟩ := hrel
    have hii := R.ii
    subst hii
    have hjn := R.jn
    have hyl := R.hy.lt
    have hrr := hr4
    by_cases hlt : j < n
    · have hS : wr.drew.cell? ⟨y, 4, none⟩ = some (.slice A j c') := R.hy.cell 4
      go_wp2_with fail
      refine wp_region_lex (fun W => W.cell? ⟨y, 4, none⟩ = some (.slice A j c')) [1] [3, 4, 5, 7] [0, 1, 2, 3, 4, 5, 6, 7] (by kernel_rfl) rfl (by kernel_rfl) (by kernel_rfl) (fun _ _ d _ _ h => by cases d <;> exact h) ?_
      repeat (first | (refine lexG_take _ ?_ rfl rfl rfl rfl (fun _ => ?_) ?_; rotate_left; (focus (go_simp; with_reducible rfl)); try simp only [Act.put, List.setIfInBounds_toArray, List.set_cons_zero, List.set_cons_succ]) | (refine lexG_held _ ?_ rfl rfl rfl rfl (by assumption) (fun _ hSw => ?_) ?_; rotate_left; (focus ((try dsimp only at hSw); go_simp; with_reducible rfl)); try simp only [Act.put, List.setIfInBounds_toArray, List.set_cons_zero, List.set_cons_succ]) | (refine lexG_skip _ rfl rfl (by assumption) ?_; try simp only [Act.put, List.setIfInBounds_toArray, List.set_cons_zero, List.set_cons_succ]))
      refine lexG_now _ rfl rfl rfl (fun K hK => ?_)
      go_wp2_with fail
      have hrd : Reads wr.drew B 1 (some ad) b.length (bys b) := (hr0.out.upd R.hu (by omega) (by rw [hz.out]; omega)).drew
      refine (IH.out wr.drew at' (Blk.drew R.rd) hrd R.hat).mono ?_
      cases hpv : pv d (b.drop at') with
      | none =>
        rintro e w6 ⟨rfl, hu6⟩
        dsimp only
        have ho' : o = none := by rw [ho.out, R.pp, pl_none (by omega) hpv]; rfl
        have hu7 := R.hu.drew.trans hu6 (fun _ _ h => h)
        clear R hK K hS hpv
        go_wp2_with fail
        refine ⟨rfl, ?_⟩
        rw [ho']
        exact ⟨rfl, hu7⟩
      | some vm =>
        obtain ⟨v, m⟩ := vm
        rintro e w6 ⟨cs, rfl, hv6, hR6, hu6⟩
        dsimp only
        have hz6 := R.hz.drew.upd hu6 (by omega)
        have hy6 := R.hy.drew.upd hu6 (by omega)
        have ho6 := R.ho.drew.upd hu6 (fun g hg e => by have := R.hA g hg; omega)
        have hAl : ∀ g, bOf A = some g → g < wr.heap.size := fun g hg => R.ho.lt hg
        have hwr6 : wr.heap.size ≤ w6.heap.size := by have := hu6.size; simpa using this
        refine hK _ _ _ (fun _ h => h) (hy6.cell 4) ?_
        clear hK K hS
        try simp only [Act.put, List.setIfInBounds_toArray, List.set_cons_zero, List.set_cons_succ]
        have hcs5 := hv6.size
        have hone := hv6.one
        obtain ⟨a0, a1, a2, a3, a4, rfl⟩ : ∃ a0 a1 a2 a3 a4, cs = #[a0, a1, a2, a3, a4] := by
          match cs, hcs5 with
          | ⟨[a0, a1, a2, a3, a4]⟩, _ => exact ⟨a0, a1, a2, a3, a4, rfl⟩
        have hz7 := hz6.alloc (.cells #[a0, a1, a2, a3, a4] 64)
        have hy7 := hy6.alloc (.cells #[a0, a1, a2, a3, a4] 64)
        have ho7 := ho6.alloc (.cells #[a0, a1, a2, a3, a4] 64)
        have hsrc := Reads.lit (size := 5) w6 #[a0, a1, a2, a3, a4] 64 (0, 0) 1 [a0, a1, a2, a3, a4] rfl rfl
        refine lexG_now _ rfl rfl rfl (fun K hK => ?_)
        go_wp2_with fail
        refine hK _ _ _ (fun _ h => h) (hy7.cell 4) ?_
        clear hK K
        try simp only [Act.put, List.setIfInBounds_toArray, List.set_cons_zero, List.set_cons_succ]
        repeat (first | (refine lexG_take _ ?_ rfl rfl rfl rfl (fun _ => ?_) ?_; rotate_left; (focus (go_simp; with_reducible rfl)); try simp only [Act.put, List.setIfInBounds_toArray, List.set_cons_zero, List.set_cons_succ]) | (refine lexG_held _ ?_ rfl rfl rfl rfl (by assumption) (fun _ hSw => ?_) ?_; rotate_left; (focus ((try dsimp only at hSw); go_simp; with_reducible rfl)); try simp only [Act.put, List.setIfInBounds_toArray, List.set_cons_zero, List.set_cons_succ]) | (refine lexG_skip _ rfl rfl (by assumption) ?_; try simp only [Act.put, List.setIfInBounds_toArray, List.set_cons_zero, List.set_cons_succ]))
        refine lexG_now _ rfl rfl rfl (fun K hK => ?_)
        refine wp_append_mine _ _ 36 36 rfl 64 i1 _ 5 64 Try.underlying36 gi gz0 gz1 gz2 rfl rfl ho7 rfl (Src.ofReads Try.underlying36 _ hsrc (by intro u hu; exact hone u (by simpa using hu))) (by unfold maxLen; omega) (by omega) (fun A8 c8 w8 ho8 hg8 hat8 => ?_)
        have hz8 := hz7.grown hg8 (fun e => by have := R.hA z e.symm; omega)
        have hy8 := hy7.grown hg8 (fun e => by have := R.hA y e.symm; omega)
        refine hK _ _ _ (fun _ h => h) (hy8.cell 4) ?_
        clear hK K
        try simp only [Act.put, List.setIfInBounds_toArray, List.set_cons_zero, List.set_cons_succ]
        repeat (first | (refine lexG_take _ ?_ rfl rfl rfl rfl (fun _ => ?_) ?_; rotate_left; (focus (go_simp; with_reducible rfl)); try simp only [Act.put, List.setIfInBounds_toArray, List.set_cons_zero, List.set_cons_succ]) | (refine lexG_held _ ?_ rfl rfl rfl rfl (by assumption) (fun _ hSw => ?_) ?_; rotate_left; (focus ((try dsimp only at hSw); go_simp; with_reducible rfl)); try simp only [Act.put, List.setIfInBounds_toArray, List.set_cons_zero, List.set_cons_succ]) | (refine lexG_skip _ rfl rfl (by assumption) ?_; try simp only [Act.put, List.setIfInBounds_toArray, List.set_cons_zero, List.set_cons_succ]))
        refine lexG_nowF _ rfl rfl rfl (by kernel_rfl) (fun K hK => ?_)
        have y84 := hy8.cell 4
        have yf8 := hy8.frozen
        go_simp
        refine hK _ _ ?_
        clear hK K
        refine lexG_nil ?_
        have hm := pv_le _ _ _ _ hpv
        rw [List.length_drop] at hm
        have hw78 : (w6.alloc (.cells #[a0, a1, a2, a3, a4] 64)).heap.size = w6.heap.size + 1 := by simp
        have hw8 : w6.heap.size + 1 ≤ w8.heap.size := by have := hg8.size; omega
        have hy9 := hy8.set_ 4 (.slice A8 (j + 1) c8)
        have hz9 := hz8.far (p := ⟨y, 4, none⟩) (by show z ≠ y; exact hzy) (.slice A8 (j + 1) c8)
        have hA8 : ∀ g, bOf A8 = some g → y < g := by
          rcases hat8 with e | e
          · rw [e]; exact R.hA
          · intro g hg
            rw [e, hw78] at hg
            cases hg
            omega
        have ho9 := ho8.setCell (p := ⟨y, 4, none⟩) (fun e => by have := hA8 y e; omega) (.slice A8 (j + 1) c8)
        have hR7 := (Blk.alloc hR6 (.cells #[a0, a1, a2, a3, a4] 64)).grown hg8 (fun e => by have := R.hA r e.symm; omega)
        have hR9 := Blk.far hR7 (p := ⟨y, 4, none⟩) hry (.slice A8 (j + 1) c8)
        have hu9 : Upd (fun x => x = r ∨ some x = bOf A ∨ x = y) wr (w8.setCell ⟨y, 4, none⟩ (.slice A8 (j + 1) c8)) :=
          (((((Upd.refl _ wr).drew).trans (hu6.mono (T := fun x => x = r ∨ some x = bOf A ∨ x = y) (fun _ _ h => .inl h)) (fun _ _ h => h)).alloc _).grown hg8 (fun k e _ => .inr (.inl e.symm))).setCell (p := ⟨y, 4, none⟩) (fun _ => .inr (.inr rfl)) _
        have hu69 : Upd (fun x => some x = bOf A ∨ x = y) w6 (w8.setCell ⟨y, 4, none⟩ (.slice A8 (j + 1) c8)) :=
          (((Upd.refl _ w6).alloc _).grown hg8 (fun k e _ => .inl e.symm)).setCell (p := ⟨y, 4, none⟩) (fun _ => .inr rfl) _
        have huw : Upd (fun x => x = r) w (w8.setCell ⟨y, 4, none⟩ (.slice A8 (j + 1) c8)) :=
          ((((R.hu.drew).trans hu6 (fun _ _ h => h)).alloc _).grown hg8 (fun k e hk => by have := R.hA k e; rw [hz.out] at hk; omega)).setCell (p := ⟨y, 4, none⟩) (fun h => by exfalso; have h : y < w.heap.size := h; rw [hz.out] at h; omega) _
        have hfresh : ∀ g, g < w6.heap.size → some g ≠ bOf A → some g ≠ bOf A8 := by
          intro g hg hne
          rcases hat8 with e | e
          · rw [e]; exact hne
          · rw [e, hw78]
            intro e2
            cases e2
            omega
        have hxl : xs.length = l1.length * 5 := by rw [R.jl]; exact R.ho.1
        have hnew : LRel d b r ad c at_ n z y w (.int .u64 ((j + 1 : Nat) : Int)) (w8.setCell ⟨y, 4, none⟩ (.slice A8 (j + 1) c8)) (j + 1) (l1 ++ [v]) A8 c8 (xs ++ [a0, a1, a2, a3, a4]) (fun k => if k = l1.length then #[a0, a1, a2, a3, a4] else css k) (at' + m) := by
          refine ⟨by omega, by simp [R.jl], rfl, hR9, by have := R.hat; omega, hz9, hy9, ho9, hA8, ?_, ?_, huw, by have := R.hl; omega, ?_⟩
          · intro k u hku
            by_cases hk : k < l1.length
            · rw [List.getElem?_append_left hk] at hku
              show VOwn _ _ u (if k = l1.length then _ else css k)
              rw [if_neg (by omega)]
              refine ((((R.hx k u hku).mono (Q := fun g => (y < g ∧ some g ≠ bOf A) ∧ g < wr.heap.size) (fun g h1 h2 => ⟨h2, h1⟩))).upd hu9 (fun g hg e => ?_)).mono (fun g _ hg => ⟨hg.1.1, hfresh g (by omega) hg.1.2⟩)
              rcases e with e | e | e
              · omega
              · exact hg.1.2 e
              · omega
            · rw [List.getElem?_append_right (by omega)] at hku
              have hk0 : k = l1.length := by
                have := (List.getElem?_eq_some_iff.1 hku).1
                simp at this; omega
              subst hk0
              simp at hku
              subst hku
              show VOwn _ _ v (if l1.length = l1.length then _ else _)
              rw [if_pos rfl]
              refine ((hv6.mono (Q := fun g => wr.heap.size ≤ g ∧ g < w6.heap.size) (fun g h1 h2 => ⟨by simpa using h2, h1⟩)).upd hu69 (fun g hg e => ?_)).mono (fun g _ hg => ⟨by omega, hfresh g hg.2 (fun e => by have := hAl g e.symm; omega)⟩)
              rcases e with e | e
              · have := hAl g e.symm; omega
              · omega
          · intro k hk
            show _ = (if k = l1.length then _ else css k).toList
            by_cases hk2 : k < l1.length
            · rw [if_neg (by omega), ← R.hxs k hk2, List.drop_append_of_le_length (by omega), List.take_append_of_le_length (by rw [List.length_drop, hxl]; omega)]
            · have hk0 : k = l1.length := by simp at hk; omega
              subst hk0
              rw [if_pos rfl, ← hxl, List.drop_left]
              rfl
          · rw [R.pp, pl_some (by omega) hpv, List.drop_drop]
            rw [show n - j - 1 = n - (j + 1) from by omega]
            cases pl (pv d) (n - (j + 1)) (b.drop (at' + m)) with
            | none => rfl
            | some x =>
              have := R.hl
              simp only [Option.map_some, List.append_assoc, List.singleton_append]
              rw [show at' - (at_ + 2) + (m + x.2) = at' + m - (at_ + 2) + x.2 from by omega]
        clear hu9 hu69 huw hR9 hR7 ho9 hz9 hy9 hfresh hxl hm hv6 hR6 hz6 hy6 ho6 hsrc hz7 hy7 ho7 hz8 hy8 ho8 hg8 hat8 y84 yf8 hone hcs5
        replace hnew := Lib.hid hnew
        go_wp2_with fail
        refine ⟨⟨j + 1, l1 ++ [v], A8, c8, xs ++ [a0, a1, a2, a3, a4], (fun k => if k = l1.length then #[a0, a1, a2, a3, a4] else css k), at' + m, ?_⟩, by simp [intOf]; omega⟩
        have e : (((j + 1 : Nat) : Int)) = (j : Int) + 1 := by omega
        have h := hnew.out
        rw [e] at h
        exact h
    · have hjn' : j = n := by omega
      subst hjn'
      have g0 := Blk.cell R.rd 2
      have gf := Blk.frozen R.rd 2
      have y0 := R.hy.cell 0
      have y1 := R.hy.cell 1
      have y2 := R.hy.cell 2
      have y3 := R.hy.cell 3
      have y4 := R.hy.cell 4
      have hzs := R.hz.far (p := ⟨r, 2, none⟩) hrz.symm (.int .i64 ((d : Int) + 1))
      have hRs := Blk.set_ R.rd 2 (.int .i64 ((d : Int) + 1))
      have hus := R.hu.setCell (p := ⟨r, 2, none⟩) (fun _ => rfl) (.int .i64 ((d : Int) + 1))
      have hzf := hzs.row #[.int .i64 4, .int .i64 0, .float .f64 0, .string ⟨#[]⟩, .slice A j c']
      have hRf := Blk.farRow hRs (g := z) hrz #[.int .i64 4, .int .i64 0, .float .f64 0, .string ⟨#[]⟩, .slice A j c']
      have hUf := hus.setRow (g := z) (fun h => absurd h (by rw [hz.out]; exact Nat.lt_irrefl _)) #[.int .i64 4, .int .i64 0, .float .f64 0, .string ⟨#[]⟩, .slice A j c']
      replace hRs := Lib.hid hRs
      replace hus := Lib.hid hus
      have R' := Lib.hid R
      clear R
      go_wp2_with (refine store_row_gen rfl 64 (Operand.tmp 2) _ rfl z #[.int .i64 4, .int .i64 0, .float .f64 0, .string ⟨#[]⟩, .slice A j c'] rfl rfl 64 _ hzs (by kernel_rfl) rfl (by simp [Value.oneCell']) (fun w6 hw6 => ?_); rw [← hw6] at hzf hRf hUf; have hw7 := Lib.hid hw6; clear hw6 hzs)
      have R := R'.out
      have hjl := R.jl
      have hw6 := hw7.out
      have ho' : o = some (.mk 4 0 0 [] l1, 2 + (at' - (at_ + 2))) := by
        rw [ho.out, R.pp, Nat.sub_self]
        simp [pl]
      have hupd : Upd (fun x => x = r ∨ x = z) wr w6 := by
        rw [hw6]
        exact ((Upd.refl _ wr).setCell (p := ⟨r, 2, none⟩) (fun _ => .inl rfl) _).setRow (fun _ => .inr rfl) _
      have hout : VOwn w6 (fun g => w.heap.size ≤ g) (.mk 4 0 0 [] l1) #[.int .i64 4, .int .i64 0, .float .f64 0, .string (bstr []), .slice A l1.length c'] := by
        refine .mk css (by omega) ?_ ?_ ?_ R.hxs
        · rw [hjl]
          exact R.ho.upd hupd (fun g hg e => by have := R.hA g hg; omega)
        · intro g hg
          have := R.hA g hg
          rw [hz.out]; omega
        · intro k v hv
          refine ((R.hx k v hv).upd hupd (fun g hg e => by omega)).mono (fun g _ hg => ?_)
          rw [hz.out]; omega
      rw [hjl] at hout
      refine bodyPost_ret (v := .agg #[.int .i64 4, .int .i64 0, .float .f64 0, .string (bstr []), .slice A j c']) ?hr rfl ?_
      case hr => exact results_cell_row rfl _ _ z 64 _ (0, 0) _ rfl hzf Try.underlying64 rfl (by kernel_rfl)
      rw [ho']
      refine ⟨_, rfl, hout, ?_, hUf⟩
      rw [show at_ + (2 + (at' - (at_ + 2))) = at' from by have := R.hl; omega]
      exact hRf
end Go.Proofs.Ytlkokkbikkbaoaa
namespace Go.Proofs.Ytlkokkbikkbaoaa
set_option maxRecDepth 100000
open Go.RowKit
set_option maxHeartbeats 1600000 in
set_option maxRecDepth 100000 in
theorem value_list_deep {ad : Addr} {c B r at_ : Nat} {b : List UInt8} {deep : Int} {w : World} (h : RdAt w r (some ad) b.length c at_ deep) (hr : Reads w B 1 (some ad) b.length (bys b)) (hB : B ≤ r) (hc : b.length ≤ c) (hl : b.length ≤ 1000000000) (hd : deep ≤ 100)
    (hat : at_ + 1 ≤ b.length) (hv1 : readU ((b.drop at_).take 1) = 4) (hd0 : deep ≤ 0) :
    Calls Try.prog 76 #[.pointer (some ⟨r, 0, none⟩)] w (fun e w' => e = .panicked shortP ∧ Upd (fun x => x = r) w w') := by
  have hrl : r < w.heap.size := h.lt
  have hsf := fun a k x m w => run_store_float (P := Try.prog) a k x m w
  have hr0 := Lib.hid hr
  replace hv1 := Lib.hid hv1
  go_enter Try.func76, Try.ntmps76
  go_wp2_with fail
  refine (number_ok (k := 1) (Blk.alloc h _) (hr.alloc (by omega) _) hB hc hl (by omega) (by omega) (by omega) 4 hv1.out).mono ?_
  rintro e w1 ⟨rfl, h1, hu1⟩
  dsimp only
  rw [show ((4 : Nat) : Int) = 4 from rfl]
  have hz1 : Blk w1 w.heap.size 64 #[.int .i64 0, .int .i64 0, .float .f64 0, .string ⟨#[]⟩, .slice none 0 0] := (Blk.new w _ _).upd hu1 (by omega)
  have hwl1 : w.heap.size < w1.heap.size := hz1.lt
  have hr1 := (hr.alloc (by omega) (.cells #[.int .i64 0, .int .i64 0, .float .f64 0, .string ⟨#[]⟩, .slice none 0 0] 64)).upd hu1 (by omega) (by simp; omega)
  have hu := ((Upd.refl (fun x => x = r) w).alloc (.cells #[.int .i64 0, .int .i64 0, .float .f64 0, .string ⟨#[]⟩, .slice none 0 0] 64)).trans hu1 (fun _ _ h => h)
  have hz2 := hz1.alloc (.cells #[.int .i64 4, .int .i64 0, .float .f64 0, .string ⟨#[]⟩, .slice none 0 0] 64)
  have hy2 := Blk.new w1 64 #[.int .i64 4, .int .i64 0, .float .f64 0, .string ⟨#[]⟩, .slice none 0 0]
  have h2 := Blk.alloc h1 (.cells #[.int .i64 4, .int .i64 0, .float .f64 0, .string ⟨#[]⟩, .slice none 0 0] 64)
  have hu2 := hu.alloc (.cells #[.int .i64 4, .int .i64 0, .float .f64 0, .string ⟨#[]⟩, .slice none 0 0] 64)
  have hr2 := hr1.alloc (by omega) (.cells #[.int .i64 4, .int .i64 0, .float .f64 0, .string ⟨#[]⟩, .slice none 0 0] 64)
  have hs2 : (w1.alloc (.cells #[.int .i64 4, .int .i64 0, .float .f64 0, .string ⟨#[]⟩, .slice none 0 0] 64)).heap.size = w1.heap.size + 1 := by simp
  clear hz1 hr1 hu h1 hu1 h hr
  have q2 := Blk.cell h2 2
  have hdn : ¬ 0 < deep := by omega
  go_wp2_with fail
  refine (must_no _).mono ?_
  rintro e w3 ⟨rfl, rfl⟩
  dsimp only
  go_wp2_with fail
  exact ⟨rfl, rfl, hu2⟩
set_option maxHeartbeats 1600000 in
set_option maxRecDepth 100000 in
theorem value_list_short {ad : Addr} {c B r at_ : Nat} {b : List UInt8} {deep : Int} {w : World} (h : RdAt w r (some ad) b.length c at_ deep) (hr : Reads w B 1 (some ad) b.length (bys b)) (hB : B ≤ r) (hc : b.length ≤ c) (hl : b.length ≤ 1000000000) (hd : deep ≤ 100)
    (hat : at_ + 1 ≤ b.length) (hv1 : readU ((b.drop at_).take 1) = 4) (hd0 : 0 < deep) (hs : b.length = at_ + 1) :
    Calls Try.prog 76 #[.pointer (some ⟨r, 0, none⟩)] w (fun e w' => e = .panicked shortP ∧ Upd (fun x => x = r) w w') := by
  have hrl : r < w.heap.size := h.lt
  have hsf := fun a k x m w => run_store_float (P := Try.prog) a k x m w
  have hr0 := Lib.hid hr
  replace hv1 := Lib.hid hv1
  go_enter Try.func76, Try.ntmps76
  go_wp2_with fail
  refine (number_ok (k := 1) (Blk.alloc h _) (hr.alloc (by omega) _) hB hc hl (by omega) (by omega) (by omega) 4 hv1.out).mono ?_
  rintro e w1 ⟨rfl, h1, hu1⟩
  dsimp only
  rw [show ((4 : Nat) : Int) = 4 from rfl]
  have hz1 : Blk w1 w.heap.size 64 #[.int .i64 0, .int .i64 0, .float .f64 0, .string ⟨#[]⟩, .slice none 0 0] := (Blk.new w _ _).upd hu1 (by omega)
  have hwl1 : w.heap.size < w1.heap.size := hz1.lt
  have hr1 := (hr.alloc (by omega) (.cells #[.int .i64 0, .int .i64 0, .float .f64 0, .string ⟨#[]⟩, .slice none 0 0] 64)).upd hu1 (by omega) (by simp; omega)
  have hu := ((Upd.refl (fun x => x = r) w).alloc (.cells #[.int .i64 0, .int .i64 0, .float .f64 0, .string ⟨#[]⟩, .slice none 0 0] 64)).trans hu1 (fun _ _ h => h)
  have hz2 := hz1.alloc (.cells #[.int .i64 4, .int .i64 0, .float .f64 0, .string ⟨#[]⟩, .slice none 0 0] 64)
  have hy2 := Blk.new w1 64 #[.int .i64 4, .int .i64 0, .float .f64 0, .string ⟨#[]⟩, .slice none 0 0]
  have h2 := Blk.alloc h1 (.cells #[.int .i64 4, .int .i64 0, .float .f64 0, .string ⟨#[]⟩, .slice none 0 0] 64)
  have hu2 := hu.alloc (.cells #[.int .i64 4, .int .i64 0, .float .f64 0, .string ⟨#[]⟩, .slice none 0 0] 64)
  have hr2 := hr1.alloc (by omega) (.cells #[.int .i64 4, .int .i64 0, .float .f64 0, .string ⟨#[]⟩, .slice none 0 0] 64)
  have hs2 : (w1.alloc (.cells #[.int .i64 4, .int .i64 0, .float .f64 0, .string ⟨#[]⟩, .slice none 0 0] 64)).heap.size = w1.heap.size + 1 := by simp
  clear hz1 hr1 hu h1 hu1 h hr
  replace hs := Lib.hid hs
  have q2 := Blk.cell h2 2
  go_wp2_with fail
  generalize w1.alloc (.cells #[.int .i64 4, .int .i64 0, .float .f64 0, .string ⟨#[]⟩, .slice none 0 0] 64) = w2 at *
  generalize w1.heap.size = y at *
  refine (must_ok w2).mono ?_
  rintro e w3 ⟨rfl, rfl⟩
  dsimp only
  have fr2 := Blk.frozen h2 2
  have hry : r ≠ y := by omega
  have hrz : r ≠ w.heap.size := by omega
  have hzy : w.heap.size ≠ y := by omega
  have h3 : RdAt (w2.setCell ⟨r, 2, none⟩ (.int .i64 (deep - 1))) r (some ad) b.length c (at_ + 1) (deep - 1) := Blk.set_ h2 2 (.int .i64 (deep - 1))
  have hz3 := hz2.far (p := ⟨r, 2, none⟩) hrz.symm (.int .i64 (deep - 1))
  have hy3 := hy2.far (p := ⟨r, 2, none⟩) hry.symm (.int .i64 (deep - 1))
  have hu3 := hu2.setCell (p := ⟨r, 2, none⟩) (fun _ => rfl) (.int .i64 (deep - 1))
  have hr3 := hr2.setCell (p := ⟨r, 2, none⟩) hB (.int .i64 (deep - 1))
  have hs3 : (w2.setCell ⟨r, 2, none⟩ (.int .i64 (deep - 1))).heap.size = y + 1 := by simp [hs2]
  clear hz2 hy2 hu2 hr2 hs2
  replace h2 := Lib.hid h2
  go_wp2_with fail
  generalize w2.setCell ⟨r, 2, none⟩ (.int .i64 (deep - 1)) = w3 at *
  clear h2 q2 fr2 w2
  refine (number_no (k := 1) h3 (by simp) hc hl (by omega) (by omega) (by rw [hs.out]; omega)).mono ?_
  rintro e w4 ⟨rfl, hb4⟩
  dsimp only
  go_wp2_with fail
  exact ⟨rfl, rfl, hu3.thenBelow hb4 hu3.size⟩
set_option maxHeartbeats 1600000 in
set_option maxRecDepth 100000 in
theorem value_list_many {ad : Addr} {c B r at_ : Nat} {b : List UInt8} {deep : Int} {w : World} (h : RdAt w r (some ad) b.length c at_ deep) (hr : Reads w B 1 (some ad) b.length (bys b)) (hB : B ≤ r) (hc : b.length ≤ c) (hl : b.length ≤ 1000000000) (hd : deep ≤ 100)
    (hat : at_ + 1 ≤ b.length) (hv1 : readU ((b.drop at_).take 1) = 4) (hd0 : 0 < deep) (hat2 : at_ + 2 ≤ b.length) (n : Nat) (hn : readU ((b.drop (at_ + 1)).take 1) = n) (hn64 : 64 < n) :
    Calls Try.prog 76 #[.pointer (some ⟨r, 0, none⟩)] w (fun e w' => e = .panicked shortP ∧ Upd (fun x => x = r) w w') := by
  have hrl : r < w.heap.size := h.lt
  have hsf := fun a k x m w => run_store_float (P := Try.prog) a k x m w
  have hr0 := Lib.hid hr
  replace hv1 := Lib.hid hv1
  go_enter Try.func76, Try.ntmps76
  go_wp2_with fail
  refine (number_ok (k := 1) (Blk.alloc h _) (hr.alloc (by omega) _) hB hc hl (by omega) (by omega) (by omega) 4 hv1.out).mono ?_
  rintro e w1 ⟨rfl, h1, hu1⟩
  dsimp only
  rw [show ((4 : Nat) : Int) = 4 from rfl]
  have hz1 : Blk w1 w.heap.size 64 #[.int .i64 0, .int .i64 0, .float .f64 0, .string ⟨#[]⟩, .slice none 0 0] := (Blk.new w _ _).upd hu1 (by omega)
  have hwl1 : w.heap.size < w1.heap.size := hz1.lt
  have hr1 := (hr.alloc (by omega) (.cells #[.int .i64 0, .int .i64 0, .float .f64 0, .string ⟨#[]⟩, .slice none 0 0] 64)).upd hu1 (by omega) (by simp; omega)
  have hu := ((Upd.refl (fun x => x = r) w).alloc (.cells #[.int .i64 0, .int .i64 0, .float .f64 0, .string ⟨#[]⟩, .slice none 0 0] 64)).trans hu1 (fun _ _ h => h)
  have hz2 := hz1.alloc (.cells #[.int .i64 4, .int .i64 0, .float .f64 0, .string ⟨#[]⟩, .slice none 0 0] 64)
  have hy2 := Blk.new w1 64 #[.int .i64 4, .int .i64 0, .float .f64 0, .string ⟨#[]⟩, .slice none 0 0]
  have h2 := Blk.alloc h1 (.cells #[.int .i64 4, .int .i64 0, .float .f64 0, .string ⟨#[]⟩, .slice none 0 0] 64)
  have hu2 := hu.alloc (.cells #[.int .i64 4, .int .i64 0, .float .f64 0, .string ⟨#[]⟩, .slice none 0 0] 64)
  have hr2 := hr1.alloc (by omega) (.cells #[.int .i64 4, .int .i64 0, .float .f64 0, .string ⟨#[]⟩, .slice none 0 0] 64)
  have hs2 : (w1.alloc (.cells #[.int .i64 4, .int .i64 0, .float .f64 0, .string ⟨#[]⟩, .slice none 0 0] 64)).heap.size = w1.heap.size + 1 := by simp
  clear hz1 hr1 hu h1 hu1 h hr
  replace hn := Lib.hid hn
  have q2 := Blk.cell h2 2
  go_wp2_with fail
  generalize w1.alloc (.cells #[.int .i64 4, .int .i64 0, .float .f64 0, .string ⟨#[]⟩, .slice none 0 0] 64) = w2 at *
  generalize w1.heap.size = y at *
  refine (must_ok w2).mono ?_
  rintro e w3 ⟨rfl, rfl⟩
  dsimp only
  have fr2 := Blk.frozen h2 2
  have hry : r ≠ y := by omega
  have hrz : r ≠ w.heap.size := by omega
  have hzy : w.heap.size ≠ y := by omega
  have h3 : RdAt (w2.setCell ⟨r, 2, none⟩ (.int .i64 (deep - 1))) r (some ad) b.length c (at_ + 1) (deep - 1) := Blk.set_ h2 2 (.int .i64 (deep - 1))
  have hz3 := hz2.far (p := ⟨r, 2, none⟩) hrz.symm (.int .i64 (deep - 1))
  have hy3 := hy2.far (p := ⟨r, 2, none⟩) hry.symm (.int .i64 (deep - 1))
  have hu3 := hu2.setCell (p := ⟨r, 2, none⟩) (fun _ => rfl) (.int .i64 (deep - 1))
  have hr3 := hr2.setCell (p := ⟨r, 2, none⟩) hB (.int .i64 (deep - 1))
  have hs3 : (w2.setCell ⟨r, 2, none⟩ (.int .i64 (deep - 1))).heap.size = y + 1 := by simp [hs2]
  clear hz2 hy2 hu2 hr2 hs2
  replace h2 := Lib.hid h2
  go_wp2_with fail
  generalize w2.setCell ⟨r, 2, none⟩ (.int .i64 (deep - 1)) = w3 at *
  clear h2 q2 fr2 w2
  refine (number_ok (k := 1) h3 hr3 hB hc hl (by omega) (by omega) (by omega) n hn.out).mono ?_
  rintro e w4 ⟨rfl, h4, hu4'⟩
  dsimp only
  have hz4 := hz3.upd hu4' (by omega)
  have hy4 := hy3.upd hu4' (by omega)
  have hu4 := hu3.trans hu4' (fun _ _ h => h)
  have hr4 := hr3.upd hu4' (by omega) (by omega)
  have hs4 : y < w4.heap.size := hy4.lt
  clear hz3 hy3 hu3 hr3 hs3 h3 hu4'
  go_wp2_with fail
  rw [show decide ((n : Int) ≤ 64) = false from decide_eq_false (by omega)]
  refine (must_no w4).mono ?_
  rintro e w5 ⟨rfl, rfl⟩
  dsimp only
  go_wp2_with fail
  exact ⟨rfl, rfl, hu4⟩
end Go.Proofs.Ytlkokkbikkbaoaa
namespace Go.Proofs.Ytlkokkbikkbaoaa
set_option maxRecDepth 100000
open Go.RowKit
set_option maxHeartbeats 1600000 in
theorem value_text_end {ad : Addr} {c B r at_ : Nat} {deep : Int} {b : List UInt8} {w : World} (h : RdAt w r (some ad) b.length c at_ deep) (hr : Reads w B 1 (some ad) b.length (bys b)) (hB : B ≤ r) (hc : b.length ≤ c) (hl : b.length ≤ 1000000000)
    (hat : at_ + 1 ≤ b.length) (hv1 : readU ((b.drop at_).take 1) = 3) (hs : b.length = at_ + 1) :
    Calls Try.prog 76 #[.pointer (some ⟨r, 0, none⟩)] w (fun e w' => e = .panicked shortP ∧ Upd (fun x => x = r) w w') := by
  have hrl : r < w.heap.size := h.lt
  have hsf := fun a k x m w => run_store_float (P := Try.prog) a k x m w
  replace hv1 := Lib.hid hv1
  replace hs := Lib.hid hs
  go_enter Try.func76, Try.ntmps76
  go_wp2_with fail
  refine (number_ok (k := 1) (Blk.alloc h _) (hr.alloc (by omega) _) hB hc hl (by omega) (by omega) (by omega) 3 hv1.out).mono ?_
  rintro e w1 ⟨rfl, h1, hu1⟩
  dsimp only
  have hz1 : Blk w1 w.heap.size 64 #[.int .i64 0, .int .i64 0, .float .f64 0, .string ⟨#[]⟩, .slice none 0 0] := (Blk.new w _ _).upd hu1 (by omega)
  have hwl1 : w.heap.size < w1.heap.size := hz1.lt
  have hr1 := (hr.alloc (by omega) (.cells #[.int .i64 0, .int .i64 0, .float .f64 0, .string ⟨#[]⟩, .slice none 0 0] 64)).upd hu1 (by omega) (by simp; omega)
  have hu := ((Upd.refl (fun x => x = r) w).alloc (.cells #[.int .i64 0, .int .i64 0, .float .f64 0, .string ⟨#[]⟩, .slice none 0 0] 64)).trans hu1 (fun _ _ h => h)
  have hz2 := hz1.alloc (.cells #[.int .i64 3, .int .i64 0, .float .f64 0, .string ⟨#[]⟩, .slice none 0 0] 64)
  have hy2 := Blk.new w1 64 #[.int .i64 3, .int .i64 0, .float .f64 0, .string ⟨#[]⟩, .slice none 0 0]
  have h2 := Blk.alloc h1 (.cells #[.int .i64 3, .int .i64 0, .float .f64 0, .string ⟨#[]⟩, .slice none 0 0] 64)
  have hu2 := hu.alloc (.cells #[.int .i64 3, .int .i64 0, .float .f64 0, .string ⟨#[]⟩, .slice none 0 0] 64)
  have hr2 := hr1.alloc (by omega) (.cells #[.int .i64 3, .int .i64 0, .float .f64 0, .string ⟨#[]⟩, .slice none 0 0] 64)
  have hs2 : (w1.alloc (.cells #[.int .i64 3, .int .i64 0, .float .f64 0, .string ⟨#[]⟩, .slice none 0 0] 64)).heap.size = w1.heap.size + 1 := by simp
  clear hz1 hr1 hu h1 hu1
  go_wp2_with fail
  generalize w1.alloc (.cells #[.int .i64 3, .int .i64 0, .float .f64 0, .string ⟨#[]⟩, .slice none 0 0] 64) = w2 at *
  generalize w1.heap.size = y at *
  rw [hs.out] at h2 hc hl
  obtain ⟨a1, ha1⟩ : ∃ a1, at_ + 1 = a1 := ⟨_, rfl⟩
  have hcast : ((at_ + 1 : Nat) : Int) = (a1 : Int) := by omega
  rw [ha1] at h2 hc hl
  have hS : w2.drew.cell? ⟨r, 0, none⟩ = some (.slice (some ad) a1 c) ∧ w2.drew.cell? ⟨r, 1, none⟩ = some (.int .i64 (a1 : Int)) ∧ Below w2.heap.size w2 w2.drew := ⟨Blk.cell h2 0, Blk.cell h2 1, (Below.refl _ _).drew⟩
  clear ha1 hcast hr hr2 hv1 hat hs
  have hmc : a1 ≤ c := hc
  refine wp_region_lex (fun W => W.cell? ⟨r, 0, none⟩ = some (.slice (some ad) a1 c) ∧ W.cell? ⟨r, 1, none⟩ = some (.int .i64 (a1 : Int)) ∧ Below w2.heap.size w2 W) [3, 7] [9] [0, 1, 2, 3, 4, 5, 6, 7, 8, 9, 10, 11, 12, 13, 14, 15, 16] (by kernel_rfl) rfl (by kernel_rfl) (by kernel_rfl) (fun _ _ d _ _ h => by cases d <;> exact h) ?_
  repeat (first | (refine lexG_take _ ?_ rfl rfl rfl rfl (fun _ => ?_) ?_; rotate_left; (focus (go_simp; with_reducible rfl)); try simp only [Act.put, List.setIfInBounds_toArray, List.set_cons_zero, List.set_cons_succ]) | (refine lexG_held _ ?_ rfl rfl rfl rfl (by assumption) (fun _ hSw => ?_) ?_; rotate_left; (focus ((try dsimp only at hSw); go_simp; with_reducible rfl)); try simp only [Act.put, List.setIfInBounds_toArray, List.set_cons_zero, List.set_cons_succ]) | (refine lexG_skip _ rfl rfl (by assumption) ?_; try simp only [Act.put, List.setIfInBounds_toArray, List.set_cons_zero, List.set_cons_succ]))
  refine lexG_now _ rfl rfl rfl (fun K hK => ?_)
  go_wp2_with fail
  all_goals
    have hrt : r < w2.heap.size := Blk.lt h2
    refine (read_text (b := []) (t := ([], 0, 20)) ⟨by simp [bys], by simp⟩ (by simp) (by simp) (by decide)).mono ?_
    rintro e w3 ⟨rfl, hb3⟩
    dsimp only
    have hS3 : w3.cell? ⟨r, 0, none⟩ = some (.slice (some ad) a1 c) ∧ w3.cell? ⟨r, 1, none⟩ = some (.int .i64 (a1 : Int)) ∧ Below w2.heap.size w2 w3 := ⟨(hb3.cell (by show r < _; simpa using hrt)).trans hS.1, (hb3.cell (by show r < _; simpa using hrt)).trans hS.2.1, below_then hb3 hS.2.2⟩
    refine hK _ _ _ (fun _ h => h) hS3 ?_
    clear hK K hb3
    try simp only [Act.put, List.setIfInBounds_toArray, List.set_cons_zero, List.set_cons_succ]
    repeat (first | (refine lexG_take _ ?_ rfl rfl rfl rfl (fun _ => ?_) ?_; rotate_left; (focus (go_simp; with_reducible rfl)); try simp only [Act.put, List.setIfInBounds_toArray, List.set_cons_zero, List.set_cons_succ]) | (refine lexG_held _ ?_ rfl rfl rfl rfl (by assumption) (fun _ hSw => ?_) ?_; rotate_left; (focus ((try dsimp only at hSw); go_simp; with_reducible rfl)); try simp only [Act.put, List.setIfInBounds_toArray, List.set_cons_zero, List.set_cons_succ]) | (refine lexG_skip _ rfl rfl (by assumption) ?_; try simp only [Act.put, List.setIfInBounds_toArray, List.set_cons_zero, List.set_cons_succ]))
    refine lexG_nil ?_
    have hu3 := hu2.thenBelow hS3.2.2 hu2.size
    clear h2 hz2 hy2 hu2
    go_wp2_with fail
    refine (must_no w3).mono ?_
    rintro e w4 ⟨rfl, rfl⟩
    dsimp only
    go_wp2_with fail
    exact ⟨rfl, rfl, hu3⟩
theorem pv_cons (d : Nat) (k : UInt8) (t : List UInt8) : pv d (k :: t) =
    if k.toNat = 0 then some (.mk 0 0 0 [] [], 1)
    else if k.toNat = 1 then (if t.length < 8 then none else some (.mk 1 (wrap64 (readU (t.take 8))) 0 [] [], 9))
    else if k.toNat = 2 then (if t.length < 8 then none else if cb (readU (t.take 8)) = readU (t.take 8) then some (.mk 2 0 (readU (t.take 8)) [] [], 9) else none)
    else if k.toNat = 3 then (if (readT t 256).2.2 = 0 then some (.mk 3 0 0 (readT t 256).1 [], 1 + (readT t 256).2.1) else none)
    else if k.toNat = 4 then
      match d, t with
      | 0, _ => none
      | _ + 1, [] => none
      | d + 1, n :: u => if 64 < n.toNat then none else match pl (pv d) n.toNat u with
        | none => none
        | some (l, m) => some (.mk 4 0 0 [] l, 2 + m)
    else none := by
  cases d with
  | zero => rfl
  | succ d =>
    rw [pv.eq_def]
    all_goals (cases t <;> rfl)
theorem readU_one (k : UInt8) : readU [k] = k.toNat := by simp [readU]
theorem readT_e (b : List UInt8) (m : Int) : (readT b m).2.2 = 0 ∨ (readT b m).2.2 = 20 := by
  unfold readT
  split
  · exact .inl rfl
  · exact .inr rfl
theorem readT_n (b : List UInt8) : (readT b 256).2.1 ≤ 1000 := by
  unfold readT
  split
  · rename_i h
    show 2 + _ ≤ _
    omega
  · show 0 ≤ _
    omega
set_option maxHeartbeats 800000 in
theorem value_all {r : Nat} {ad : Addr} {c B : Nat} {b : List UInt8} (hB : B ≤ r) (hc : b.length ≤ c) (hl : b.length ≤ 1000000000) : ∀ (d : Nat), d ≤ 100 → ∀ (w : World) (at_ : Nat), RdAt w r (some ad) b.length c at_ (d : Int) → Reads w B 1 (some ad) b.length (bys b) → at_ ≤ b.length →
    Calls Try.prog 76 #[.pointer (some ⟨r, 0, none⟩)] w (PRes w r ad b.length c at_ (d : Int) (pv d (b.drop at_))) := by
  intro d
  induction d with
  | zero =>
    intro hd w at_ h hr hat
    cases hb : b.drop at_ with
    | nil =>
      have hal : at_ = b.length := by have := congrArg List.length hb; simp at this; omega
      exact (value_end h hc hl hal).mono fun e w' hh => by simpa [pv, PRes] using hh
    | cons k t =>
      have ht : b.drop (at_ + 1) = t := by rw [← List.drop_drop, hb]; rfl
      have hbl : b.length = at_ + 1 + t.length := by have := congrArg List.length hb; simp at this; omega
      have hv : readU ((b.drop at_).take 1) = k.toNat := by rw [hb]; exact readU_one k
      by_cases k0 : k.toNat = 0
      · have e : pv 0 (k :: t) = some (.mk 0 0 0 [] [], 1) := by simp [pv, k0]
        rw [e]
        refine (value_nil h hr hB hc hl (by omega) (by rw [hv, k0])).mono ?_
        rintro e w' ⟨rfl, h1, h2⟩
        exact ⟨_, rfl, VOwn.flat _ _ _ _ _ _, h1, h2⟩
      by_cases k1 : k.toNat = 1
      · by_cases ht8 : t.length < 8
        · have e : pv 0 (k :: t) = none := by simp [pv, k1, ht8]
          rw [e]
          exact value_num_no h hr hB hc hl (by omega) 1 (by rw [hv, k1]) (.inl rfl) (by omega)
        · have e : pv 0 (k :: t) = some (.mk 1 (wrap64 (readU (t.take 8))) 0 [] [], 9) := by simp only [pv, k1]; simp [ht8]
          rw [e]
          refine (value_int h hr hB hc hl (by omega) (by rw [hv, k1]) (readU (t.take 8)) (by rw [ht])).mono ?_
          rintro e w' ⟨rfl, h1, h2⟩
          exact ⟨_, rfl, VOwn.flat _ _ _ _ _ _, h1, h2⟩
      by_cases k2 : k.toNat = 2
      · by_cases ht8 : t.length < 8
        · have e : pv 0 (k :: t) = none := by simp [pv, k2, ht8]
          rw [e]
          exact value_num_no h hr hB hc hl (by omega) 2 (by rw [hv, k2]) (.inr rfl) (by omega)
        · by_cases hcb : cb (readU (t.take 8)) = readU (t.take 8)
          · have e : pv 0 (k :: t) = some (.mk 2 0 (readU (t.take 8)) [] [], 9) := by simp only [pv, k2]; simp [ht8, hcb]
            rw [e]
            refine (value_float h hr hB hc hl (by omega) (by rw [hv, k2]) (readU (t.take 8)) (by rw [ht]) hcb).mono ?_
            rintro e w' ⟨rfl, h1, h2⟩
            exact ⟨_, rfl, VOwn.flat _ _ _ _ _ _, h1, h2⟩
          · have e : pv 0 (k :: t) = none := by simp only [pv, k2]; simp [ht8, hcb]
            rw [e]
            exact value_float_no h hr hB hc hl (by omega) (by rw [hv, k2]) (readU (t.take 8)) (by rw [ht]) hcb
      by_cases k3 : k.toNat = 3
      · have e : pv 0 (k :: t) = if (readT t 256).2.2 = 0 then some (.mk 3 0 0 (readT t 256).1 [], 1 + (readT t 256).2.1) else none := by simp only [pv, k3]; simp
        rw [e]
        by_cases htl : t = []
        · subst htl
          exact value_text_end h hr hB hc hl (by omega) (by rw [hv, k3]) (by simpa using hbl)
        · have : 0 < t.length := List.length_pos_iff.2 htl
          exact value_text h hr hB hc hl (by omega) (by rw [hv, k3]) (readT t 256) (by rw [ht]) _ rfl (readT_e t 256) (readT_n t)
      by_cases k4 : k.toNat = 4
      rotate_left
      · have e : pv 0 (k :: t) = none := by simp [pv, k0, k1, k2, k3, k4]
        rw [e]
        exact value_bad h hr hB hc hl (by omega) k.toNat hv (by omega) k.toNat_lt
      · have h4 : k.toNat = 4 := by assumption
        have e : pv 0 (k :: t) = none := by simp [pv, h4]
        rw [e]
        exact value_list_deep h hr hB hc hl (by omega) (by omega) (by rw [hv, h4]) (by omega)
  | succ d IH =>
    intro hd w at_ h hr hat
    cases hb : b.drop at_ with
    | nil =>
      have hal : at_ = b.length := by have := congrArg List.length hb; simp at this; omega
      exact (value_end h hc hl hal).mono fun e w' hh => by simpa [pv, PRes] using hh
    | cons k t =>
      have ht : b.drop (at_ + 1) = t := by rw [← List.drop_drop, hb]; rfl
      have hbl : b.length = at_ + 1 + t.length := by have := congrArg List.length hb; simp at this; omega
      have hv : readU ((b.drop at_).take 1) = k.toNat := by rw [hb]; exact readU_one k
      by_cases k0 : k.toNat = 0
      · have e : pv (d + 1) (k :: t) = some (.mk 0 0 0 [] [], 1) := by rw [pv_cons]; simp [k0]
        rw [e]
        refine (value_nil h hr hB hc hl (by omega) (by rw [hv, k0])).mono ?_
        rintro e w' ⟨rfl, h1, h2⟩
        exact ⟨_, rfl, VOwn.flat _ _ _ _ _ _, h1, h2⟩
      by_cases k1 : k.toNat = 1
      · by_cases ht8 : t.length < 8
        · have e : pv (d + 1) (k :: t) = none := by rw [pv_cons]; simp [k1, ht8]
          rw [e]
          exact value_num_no h hr hB hc hl (by omega) 1 (by rw [hv, k1]) (.inl rfl) (by omega)
        · have e : pv (d + 1) (k :: t) = some (.mk 1 (wrap64 (readU (t.take 8))) 0 [] [], 9) := by rw [pv_cons]; simp [k1, ht8]
          rw [e]
          refine (value_int h hr hB hc hl (by omega) (by rw [hv, k1]) (readU (t.take 8)) (by rw [ht])).mono ?_
          rintro e w' ⟨rfl, h1, h2⟩
          exact ⟨_, rfl, VOwn.flat _ _ _ _ _ _, h1, h2⟩
      by_cases k2 : k.toNat = 2
      · by_cases ht8 : t.length < 8
        · have e : pv (d + 1) (k :: t) = none := by rw [pv_cons]; simp [k2, ht8]
          rw [e]
          exact value_num_no h hr hB hc hl (by omega) 2 (by rw [hv, k2]) (.inr rfl) (by omega)
        · by_cases hcb : cb (readU (t.take 8)) = readU (t.take 8)
          · have e : pv (d + 1) (k :: t) = some (.mk 2 0 (readU (t.take 8)) [] [], 9) := by rw [pv_cons]; simp [k2, ht8, hcb]
            rw [e]
            refine (value_float h hr hB hc hl (by omega) (by rw [hv, k2]) (readU (t.take 8)) (by rw [ht]) hcb).mono ?_
            rintro e w' ⟨rfl, h1, h2⟩
            exact ⟨_, rfl, VOwn.flat _ _ _ _ _ _, h1, h2⟩
          · have e : pv (d + 1) (k :: t) = none := by rw [pv_cons]; simp [k2, ht8, hcb]
            rw [e]
            exact value_float_no h hr hB hc hl (by omega) (by rw [hv, k2]) (readU (t.take 8)) (by rw [ht]) hcb
      by_cases k3 : k.toNat = 3
      · have e : pv (d + 1) (k :: t) = if (readT t 256).2.2 = 0 then some (.mk 3 0 0 (readT t 256).1 [], 1 + (readT t 256).2.1) else none := by rw [pv_cons]; simp [k3]
        rw [e]
        by_cases htl : t = []
        · subst htl
          exact value_text_end h hr hB hc hl (by omega) (by rw [hv, k3]) (by simpa using hbl)
        · have : 0 < t.length := List.length_pos_iff.2 htl
          exact value_text h hr hB hc hl (by omega) (by rw [hv, k3]) (readT t 256) (by rw [ht]) _ rfl (readT_e t 256) (readT_n t)
      by_cases k4 : k.toNat = 4
      rotate_left
      · have e : pv (d + 1) (k :: t) = none := by rw [pv_cons]; simp [k0, k1, k2, k3, k4]
        rw [e]
        exact value_bad h hr hB hc hl (by omega) k.toNat hv (by omega) k.toNat_lt
      · have h4 : k.toNat = 4 := by assumption
        have hde : ((d + 1 : Nat) : Int) = (d : Int) + 1 := by omega
        cases t with
        | nil =>
          have e : pv (d + 1) [k] = none := by rw [pv_cons]; simp [h4]
          rw [e]
          exact value_list_short h hr hB hc hl (by omega) (by omega) (by rw [hv, h4]) (by omega) (by simpa using hbl)
        | cons n u =>
          have hn : readU ((b.drop (at_ + 1)).take 1) = n.toNat := by rw [ht]; exact readU_one n
          simp only [List.length_cons] at hbl
          by_cases hn64 : 64 < n.toNat
          · have e : pv (d + 1) (k :: n :: u) = none := by rw [pv_cons]; simp [h4, hn64]
            rw [e]
            exact value_list_many h hr hB hc hl (by omega) (by omega) (by rw [hv, h4]) (by omega) (by omega) n.toNat hn hn64
          · have hu : b.drop (at_ + 2) = u := by
              have : b.drop (at_ + 1 + 1) = u := by rw [← List.drop_drop, ht]; rfl
              exact this
            have e : pv (d + 1) (k :: n :: u) = (pl (pv d) n.toNat (b.drop (at_ + 2))).map (fun x => (.mk 4 0 0 [] x.1, 2 + x.2)) := by
              rw [hu]
              rw [pv_cons]
              simp only [h4]
              simp only [Nat.reduceEqDiff, if_false, if_true, if_neg hn64]
              cases pl (pv d) n.toNat u <;> rfl
            rw [hde] at h ⊢
            exact value_list (fun w at_ h1 h2 h3 => IH (by omega) w at_ h1 h2 h3) h hr hB hc hl (by omega) (by omega) (by rw [hv, h4]) n.toNat hn (by omega) _ e
end Go.Proofs.Ytlkokkbikkbaoaa
