/- Texts of the seat: names, classes, methods. -/
import Derived.Test.YtlkokkbikkbaoaaB5
set_option linter.unusedSimpArgs false
set_option linter.unusedVariables false
set_option linter.unusedSimpArgs false
set_option linter.unusedVariables false
namespace Go.Proofs.Ytlkokkbikkbaoaa
open Go.RowKit
set_option maxRecDepth 100000

theorem info_str : (Try.prog.info? 9).map (fun i => (i.zero, i.size, i.bytes)) = some (some (.string ⟨#[]⟩), 1, 16) := by kernel_rfl
/-- A row of short texts. -/
def Strs (w : World) (B : Nat) (A : Option Addr) (n : Nat) : Prop := ∃ xs, Reads w B 1 A n xs ∧ ∀ j, j < n → ∃ s : List UInt8, xs[j]? = some (.string (bstr s)) ∧ s.length ≤ 8
theorem Strs.below {w w' : World} {B n : Nat} {A : Option Addr} (h : Strs w B A n) (hb : Below B w w') : Strs w' B A n := by
  obtain ⟨xs, hr, hs⟩ := h
  exact ⟨xs, hr.below hb, hs⟩
theorem Strs.cell {w : World} {B n j : Nat} {A : Option Addr} (h : Strs w B A n) (hj : j < n) : ∃ ad s, A = some ad ∧ s.length ≤ 8 ∧ ∀ w', Below B w w' → w'.cell? (ad.add j) = some (.string (bstr s)) := by
  obtain ⟨xs, hr, hs⟩ := h
  obtain ⟨s, hx, hl⟩ := hs j hj
  obtain ⟨ad, rfl, -, hc⟩ := hr.2 (by omega)
  refine ⟨ad, s, rfl, hl, fun w' hb => ?_⟩
  obtain ⟨ad', e, -, hc'⟩ := (hr.below hb).2 (by omega)
  cases e
  exact hc' j _ hx
theorem Strs.lit (w : World) (l : List (List UInt8)) (t : TypeId) (cs : Array Value) (hcs : cs.toList = l.map fun s => Value.string (bstr s)) (hl : ∀ s ∈ l, s.length ≤ 8) : Strs (w.alloc (.cells cs t)) (w.heap.size + 1) (some ⟨w.heap.size, 0, none⟩) l.length := by
  refine ⟨_, Reads.lit w cs t (0, 0) l.length _ hcs (by simp), fun j hj => ⟨l[j], ?_, hl _ (List.getElem_mem hj)⟩⟩
  rw [List.getElem?_map, List.getElem?_eq_getElem hj]
  rfl

theorem names_walk (w : World) : Calls Try.prog 16 #[] w (fun e w' => e = .returned (.slice (some ⟨w.heap.size, 0, none⟩) 6 6) ∧ Strs w' w'.heap.size (some ⟨w.heap.size, 0, none⟩) 6 ∧ Below w.heap.size w w') := by
  have hl := Strs.lit w [[99, 110, 116], [108, 101, 100], [111, 114, 99], [113, 117, 101], [114, 101, 103], [116, 97, 98]] 9 #[.string ⟨#[99, 110, 116]⟩, .string ⟨#[108, 101, 100]⟩, .string ⟨#[111, 114, 99]⟩, .string ⟨#[113, 117, 101]⟩, .string ⟨#[114, 101, 103]⟩, .string ⟨#[116, 97, 98]⟩] rfl (by decide)
  have hb := (Below.refl w.heap.size w).alloc (Nat.le_refl _) (.cells #[.string ⟨#[99, 110, 116]⟩, .string ⟨#[108, 101, 100]⟩, .string ⟨#[111, 114, 99]⟩, .string ⟨#[113, 117, 101]⟩, .string ⟨#[114, 101, 103]⟩, .string ⟨#[116, 97, 98]⟩] 9)
  have hs : (w.alloc (.cells #[.string ⟨#[99, 110, 116]⟩, .string ⟨#[108, 101, 100]⟩, .string ⟨#[111, 114, 99]⟩, .string ⟨#[113, 117, 101]⟩, .string ⟨#[114, 101, 103]⟩, .string ⟨#[116, 97, 98]⟩] 9)).heap.size = w.heap.size + 1 := by simp
  rw [← hs] at hl
  replace hl := Lib.hid hl
  replace hs := Lib.hid hs
  go_enter Try.func16, Try.ntmps16
  go_wp2_with fail
  go_ret
  exact ⟨rfl, hl.out, hb⟩

def classes : List (List UInt8) := [[99, 111, 117, 110, 116, 101, 114], [108, 101, 100, 103, 101, 114], [111, 114, 99, 104], [113, 117, 101, 117, 101], [114, 101, 103, 105, 115, 116, 101, 114], [116, 97, 98, 108, 101]]
/-- One of the six classes. -/
def IsClass (s : ByteArray) : Prop := ∃ c ∈ classes, s = bstr c
theorem class_walk (w : World) {k : Int} (h0 : 0 ≤ k) (h5 : k < 6) : Calls Try.prog 14 #[.int .i64 k] w (fun e w' => (∃ s, e = .returned (.string s) ∧ IsClass s) ∧ Below w.heap.size w w') := by
  have hC : Calls Try.prog 28 #[] w (fun e w' => e = .returned (.slice (some ⟨w.heap.size, 0, none⟩) 6 6) ∧ w' = w.alloc (.cells #[.string ⟨#[99, 111, 117, 110, 116, 101, 114]⟩, .string ⟨#[108, 101, 100, 103, 101, 114]⟩, .string ⟨#[111, 114, 99, 104]⟩, .string ⟨#[113, 117, 101, 117, 101]⟩, .string ⟨#[114, 101, 103, 105, 115, 116, 101, 114]⟩, .string ⟨#[116, 97, 98, 108, 101]⟩] 9)) := by
    go_enter Try.func28, Try.ntmps28
    go_wp2_with fail
    go_ret
    exact ⟨rfl, rfl⟩
  have hk : k.tmod 6 = k := by rw [Int.tmod_eq_emod_of_nonneg h0]; omega
  have hrow := Blk.new w 9 #[.string ⟨#[99, 111, 117, 110, 116, 101, 114]⟩, .string ⟨#[108, 101, 100, 103, 101, 114]⟩, .string ⟨#[111, 114, 99, 104]⟩, .string ⟨#[113, 117, 101, 117, 101]⟩, .string ⟨#[114, 101, 103, 105, 115, 116, 101, 114]⟩, .string ⟨#[116, 97, 98, 108, 101]⟩]
  have hb := (Below.refl w.heap.size w).alloc (Nat.le_refl _) (.cells #[.string ⟨#[99, 111, 117, 110, 116, 101, 114]⟩, .string ⟨#[108, 101, 100, 103, 101, 114]⟩, .string ⟨#[111, 114, 99, 104]⟩, .string ⟨#[113, 117, 101, 117, 101]⟩, .string ⟨#[114, 101, 103, 105, 115, 116, 101, 114]⟩, .string ⟨#[116, 97, 98, 108, 101]⟩] 9)
  obtain ⟨j, rfl⟩ : ∃ j : Nat, k = (j : Int) := ⟨k.toNat, by omega⟩
  have hj : j < 6 := by omega
  obtain ⟨c, hc, hcc⟩ : ∃ c, c ∈ classes ∧ #[.string ⟨#[99, 111, 117, 110, 116, 101, 114]⟩, .string ⟨#[108, 101, 100, 103, 101, 114]⟩, .string ⟨#[111, 114, 99, 104]⟩, .string ⟨#[113, 117, 101, 117, 101]⟩, .string ⟨#[114, 101, 103, 105, 115, 116, 101, 114]⟩, .string ⟨#[116, 97, 98, 108, 101]⟩][j]? = some (Value.string (bstr c)) := by
    have : j = 0 ∨ j = 1 ∨ j = 2 ∨ j = 3 ∨ j = 4 ∨ j = 5 := by omega
    rcases this with rfl | rfl | rfl | rfl | rfl | rfl
    · exact ⟨[99, 111, 117, 110, 116, 101, 114], by simp [classes], rfl⟩
    · exact ⟨[108, 101, 100, 103, 101, 114], by simp [classes], rfl⟩
    · exact ⟨[111, 114, 99, 104], by simp [classes], rfl⟩
    · exact ⟨[113, 117, 101, 117, 101], by simp [classes], rfl⟩
    · exact ⟨[114, 101, 103, 105, 115, 116, 101, 114], by simp [classes], rfl⟩
    · exact ⟨[116, 97, 98, 108, 101], by simp [classes], rfl⟩
  have hcell := hrow.cell j
  rw [hcc] at hcell
  have fin : ∀ w', Below w.heap.size w w' → (∃ s, (Ending.returned (.string (bstr c)) : Ending) = .returned (.string s) ∧ IsClass s) ∧ Below w.heap.size w w' := fun w' h => ⟨⟨bstr c, rfl, c, hc, rfl⟩, h⟩
  obtain ⟨cc, hce⟩ : ∃ cc, bstr c = cc := ⟨_, rfl⟩
  rw [hce] at hcell fin
  have hem : (j : Int) % 6 = (j : Int) := by omega
  replace fin := Lib.hid fin
  replace hC := Lib.hid hC
  clear hcc hrow hce
  go_enter Try.func14, Try.ntmps14
  go_wp2_with fail
  refine hC.out.mono ?_
  rintro e w2 ⟨rfl, rfl⟩
  try dsimp only
  generalize w.alloc (.cells #[.string ⟨#[99, 111, 117, 110, 116, 101, 114]⟩, .string ⟨#[108, 101, 100, 103, 101, 114]⟩, .string ⟨#[111, 114, 99, 104]⟩, .string ⟨#[113, 117, 101, 117, 101]⟩, .string ⟨#[114, 101, 103, 105, 115, 116, 101, 114]⟩, .string ⟨#[116, 97, 98, 108, 101]⟩] 9) = w2 at *
  go_wp2_with fail
  go_ret
  exact fin.out _ hb

/-- A class's methods: rows of three cells, the first a short text. -/
def Meths (w : World) (B : Nat) (A : Option Addr) (n : Nat) : Prop := ∃ xs, Reads w B 3 A n xs ∧ ∀ j, j < n → ∃ s : List UInt8, xs[j * 3]? = some (.string (bstr s)) ∧ s.length ≤ 8
theorem Meths.below {w w' : World} {B n : Nat} {A : Option Addr} (h : Meths w B A n) (hb : Below B w w') : Meths w' B A n := by
  obtain ⟨xs, hr, hs⟩ := h
  exact ⟨xs, hr.below hb, hs⟩
def MethsRes (w : World) (e : Ending) (w' : World) : Prop := ∃ A n c, e = .returned (.slice A n c) ∧ 0 < n ∧ n ≤ 7 ∧ n ≤ c ∧ Meths w' w'.heap.size A n ∧ Below w.heap.size w w'

theorem methods_counter (w : World) : Calls Try.prog 29 #[.string ⟨#[99, 111, 117, 110, 116, 101, 114]⟩] w (MethsRes w) := by
  have hr := Reads.lit (size := 3) w #[.string ⟨#[97, 100, 100]⟩, .string ⟨#[35]⟩, .bool true, .string ⟨#[99, 111, 117, 110, 116]⟩, .string ⟨#[]⟩, .bool false, .string ⟨#[114, 101, 115, 101, 116]⟩, .string ⟨#[]⟩, .bool true, .string ⟨#[116, 111, 116, 97, 108]⟩, .string ⟨#[]⟩, .bool false] 81 (0, 0) 4 [.string ⟨#[97, 100, 100]⟩, .string ⟨#[35]⟩, .bool true, .string ⟨#[99, 111, 117, 110, 116]⟩, .string ⟨#[]⟩, .bool false, .string ⟨#[114, 101, 115, 101, 116]⟩, .string ⟨#[]⟩, .bool true, .string ⟨#[116, 111, 116, 97, 108]⟩, .string ⟨#[]⟩, .bool false] rfl rfl
  have hb := (Below.refl w.heap.size w).alloc (Nat.le_refl _) (.cells #[.string ⟨#[97, 100, 100]⟩, .string ⟨#[35]⟩, .bool true, .string ⟨#[99, 111, 117, 110, 116]⟩, .string ⟨#[]⟩, .bool false, .string ⟨#[114, 101, 115, 101, 116]⟩, .string ⟨#[]⟩, .bool true, .string ⟨#[116, 111, 116, 97, 108]⟩, .string ⟨#[]⟩, .bool false] 81)
  have hs : (w.alloc (.cells #[.string ⟨#[97, 100, 100]⟩, .string ⟨#[35]⟩, .bool true, .string ⟨#[99, 111, 117, 110, 116]⟩, .string ⟨#[]⟩, .bool false, .string ⟨#[114, 101, 115, 101, 116]⟩, .string ⟨#[]⟩, .bool true, .string ⟨#[116, 111, 116, 97, 108]⟩, .string ⟨#[]⟩, .bool false] 81)).heap.size = w.heap.size + 1 := by simp
  rw [← hs] at hr
  have fin : MethsRes w (.returned (.slice (some ⟨w.heap.size, 0, none⟩) 4 4)) (w.alloc (.cells #[.string ⟨#[97, 100, 100]⟩, .string ⟨#[35]⟩, .bool true, .string ⟨#[99, 111, 117, 110, 116]⟩, .string ⟨#[]⟩, .bool false, .string ⟨#[114, 101, 115, 101, 116]⟩, .string ⟨#[]⟩, .bool true, .string ⟨#[116, 111, 116, 97, 108]⟩, .string ⟨#[]⟩, .bool false] 81)) := by
    refine ⟨_, 4, 4, rfl, by decide, by decide, Nat.le_refl _, ⟨_, hr, fun j hj => ?_⟩, hb⟩
    have : j = 0 ∨ j = 1 ∨ j = 2 ∨ j = 3 := by omega
    rcases this with rfl | rfl | rfl | rfl
    · exact ⟨[97, 100, 100], rfl, by decide⟩
    · exact ⟨[99, 111, 117, 110, 116], rfl, by decide⟩
    · exact ⟨[114, 101, 115, 101, 116], rfl, by decide⟩
    · exact ⟨[116, 111, 116, 97, 108], rfl, by decide⟩
  replace fin := Lib.hid fin
  clear hr hb hs
  go_enter Try.func29, Try.ntmps29
  go_wp2_with fail
  go_ret
  exact fin.out

theorem methods_ledger (w : World) : Calls Try.prog 29 #[.string ⟨#[108, 101, 100, 103, 101, 114]⟩] w (MethsRes w) := by
  have hr := Reads.lit (size := 3) w #[.string ⟨#[98, 97, 108, 97, 110, 99, 101]⟩, .string ⟨#[110]⟩, .bool false, .string ⟨#[99, 108, 111, 115, 101]⟩, .string ⟨#[110]⟩, .bool true, .string ⟨#[100, 101, 112, 111, 115, 105, 116]⟩, .string ⟨#[110, 35]⟩, .bool true, .string ⟨#[110, 97, 109, 101, 115]⟩, .string ⟨#[]⟩, .bool false, .string ⟨#[111, 112, 101, 110]⟩, .string ⟨#[110]⟩, .bool true, .string ⟨#[116, 111, 116, 97, 108]⟩, .string ⟨#[]⟩, .bool false, .string ⟨#[116, 114, 97, 110, 115, 102, 101, 114]⟩, .string ⟨#[110, 110, 35]⟩, .bool true] 81 (0, 0) 7 [.string ⟨#[98, 97, 108, 97, 110, 99, 101]⟩, .string ⟨#[110]⟩, .bool false, .string ⟨#[99, 108, 111, 115, 101]⟩, .string ⟨#[110]⟩, .bool true, .string ⟨#[100, 101, 112, 111, 115, 105, 116]⟩, .string ⟨#[110, 35]⟩, .bool true, .string ⟨#[110, 97, 109, 101, 115]⟩, .string ⟨#[]⟩, .bool false, .string ⟨#[111, 112, 101, 110]⟩, .string ⟨#[110]⟩, .bool true, .string ⟨#[116, 111, 116, 97, 108]⟩, .string ⟨#[]⟩, .bool false, .string ⟨#[116, 114, 97, 110, 115, 102, 101, 114]⟩, .string ⟨#[110, 110, 35]⟩, .bool true] rfl rfl
  have hb := (Below.refl w.heap.size w).alloc (Nat.le_refl _) (.cells #[.string ⟨#[98, 97, 108, 97, 110, 99, 101]⟩, .string ⟨#[110]⟩, .bool false, .string ⟨#[99, 108, 111, 115, 101]⟩, .string ⟨#[110]⟩, .bool true, .string ⟨#[100, 101, 112, 111, 115, 105, 116]⟩, .string ⟨#[110, 35]⟩, .bool true, .string ⟨#[110, 97, 109, 101, 115]⟩, .string ⟨#[]⟩, .bool false, .string ⟨#[111, 112, 101, 110]⟩, .string ⟨#[110]⟩, .bool true, .string ⟨#[116, 111, 116, 97, 108]⟩, .string ⟨#[]⟩, .bool false, .string ⟨#[116, 114, 97, 110, 115, 102, 101, 114]⟩, .string ⟨#[110, 110, 35]⟩, .bool true] 81)
  have hs : (w.alloc (.cells #[.string ⟨#[98, 97, 108, 97, 110, 99, 101]⟩, .string ⟨#[110]⟩, .bool false, .string ⟨#[99, 108, 111, 115, 101]⟩, .string ⟨#[110]⟩, .bool true, .string ⟨#[100, 101, 112, 111, 115, 105, 116]⟩, .string ⟨#[110, 35]⟩, .bool true, .string ⟨#[110, 97, 109, 101, 115]⟩, .string ⟨#[]⟩, .bool false, .string ⟨#[111, 112, 101, 110]⟩, .string ⟨#[110]⟩, .bool true, .string ⟨#[116, 111, 116, 97, 108]⟩, .string ⟨#[]⟩, .bool false, .string ⟨#[116, 114, 97, 110, 115, 102, 101, 114]⟩, .string ⟨#[110, 110, 35]⟩, .bool true] 81)).heap.size = w.heap.size + 1 := by simp
  rw [← hs] at hr
  have fin : MethsRes w (.returned (.slice (some ⟨w.heap.size, 0, none⟩) 7 7)) (w.alloc (.cells #[.string ⟨#[98, 97, 108, 97, 110, 99, 101]⟩, .string ⟨#[110]⟩, .bool false, .string ⟨#[99, 108, 111, 115, 101]⟩, .string ⟨#[110]⟩, .bool true, .string ⟨#[100, 101, 112, 111, 115, 105, 116]⟩, .string ⟨#[110, 35]⟩, .bool true, .string ⟨#[110, 97, 109, 101, 115]⟩, .string ⟨#[]⟩, .bool false, .string ⟨#[111, 112, 101, 110]⟩, .string ⟨#[110]⟩, .bool true, .string ⟨#[116, 111, 116, 97, 108]⟩, .string ⟨#[]⟩, .bool false, .string ⟨#[116, 114, 97, 110, 115, 102, 101, 114]⟩, .string ⟨#[110, 110, 35]⟩, .bool true] 81)) := by
    refine ⟨_, 7, 7, rfl, by decide, by decide, Nat.le_refl _, ⟨_, hr, fun j hj => ?_⟩, hb⟩
    have : j = 0 ∨ j = 1 ∨ j = 2 ∨ j = 3 ∨ j = 4 ∨ j = 5 ∨ j = 6 := by omega
    rcases this with rfl | rfl | rfl | rfl | rfl | rfl | rfl
    · exact ⟨[98, 97, 108, 97, 110, 99, 101], rfl, by decide⟩
    · exact ⟨[99, 108, 111, 115, 101], rfl, by decide⟩
    · exact ⟨[100, 101, 112, 111, 115, 105, 116], rfl, by decide⟩
    · exact ⟨[110, 97, 109, 101, 115], rfl, by decide⟩
    · exact ⟨[111, 112, 101, 110], rfl, by decide⟩
    · exact ⟨[116, 111, 116, 97, 108], rfl, by decide⟩
    · exact ⟨[116, 114, 97, 110, 115, 102, 101, 114], rfl, by decide⟩
  replace fin := Lib.hid fin
  clear hr hb hs
  go_enter Try.func29, Try.ntmps29
  go_wp2_with fail
  go_ret
  exact fin.out

theorem methods_orch (w : World) : Calls Try.prog 29 #[.string ⟨#[111, 114, 99, 104]⟩] w (MethsRes w) := by
  have hr := Reads.lit (size := 3) w #[.string ⟨#[102, 97, 105, 108]⟩, .string ⟨#[]⟩, .bool true, .string ⟨#[114, 117, 110]⟩, .string ⟨#[115]⟩, .bool true, .string ⟨#[114, 117, 110, 115]⟩, .string ⟨#[]⟩, .bool false] 81 (0, 0) 3 [.string ⟨#[102, 97, 105, 108]⟩, .string ⟨#[]⟩, .bool true, .string ⟨#[114, 117, 110]⟩, .string ⟨#[115]⟩, .bool true, .string ⟨#[114, 117, 110, 115]⟩, .string ⟨#[]⟩, .bool false] rfl rfl
  have hb := (Below.refl w.heap.size w).alloc (Nat.le_refl _) (.cells #[.string ⟨#[102, 97, 105, 108]⟩, .string ⟨#[]⟩, .bool true, .string ⟨#[114, 117, 110]⟩, .string ⟨#[115]⟩, .bool true, .string ⟨#[114, 117, 110, 115]⟩, .string ⟨#[]⟩, .bool false] 81)
  have hs : (w.alloc (.cells #[.string ⟨#[102, 97, 105, 108]⟩, .string ⟨#[]⟩, .bool true, .string ⟨#[114, 117, 110]⟩, .string ⟨#[115]⟩, .bool true, .string ⟨#[114, 117, 110, 115]⟩, .string ⟨#[]⟩, .bool false] 81)).heap.size = w.heap.size + 1 := by simp
  rw [← hs] at hr
  have fin : MethsRes w (.returned (.slice (some ⟨w.heap.size, 0, none⟩) 3 3)) (w.alloc (.cells #[.string ⟨#[102, 97, 105, 108]⟩, .string ⟨#[]⟩, .bool true, .string ⟨#[114, 117, 110]⟩, .string ⟨#[115]⟩, .bool true, .string ⟨#[114, 117, 110, 115]⟩, .string ⟨#[]⟩, .bool false] 81)) := by
    refine ⟨_, 3, 3, rfl, by decide, by decide, Nat.le_refl _, ⟨_, hr, fun j hj => ?_⟩, hb⟩
    have : j = 0 ∨ j = 1 ∨ j = 2 := by omega
    rcases this with rfl | rfl | rfl
    · exact ⟨[102, 97, 105, 108], rfl, by decide⟩
    · exact ⟨[114, 117, 110], rfl, by decide⟩
    · exact ⟨[114, 117, 110, 115], rfl, by decide⟩
  replace fin := Lib.hid fin
  clear hr hb hs
  go_enter Try.func29, Try.ntmps29
  go_wp2_with fail
  go_ret
  exact fin.out

theorem methods_queue (w : World) : Calls Try.prog 29 #[.string ⟨#[113, 117, 101, 117, 101]⟩] w (MethsRes w) := by
  have hr := Reads.lit (size := 3) w #[.string ⟨#[108, 101, 110]⟩, .string ⟨#[]⟩, .bool false, .string ⟨#[110, 116, 104]⟩, .string ⟨#[105]⟩, .bool false, .string ⟨#[112, 101, 101, 107]⟩, .string ⟨#[]⟩, .bool false, .string ⟨#[112, 111, 112]⟩, .string ⟨#[]⟩, .bool true, .string ⟨#[112, 117, 115, 104]⟩, .string ⟨#[118]⟩, .bool true] 81 (0, 0) 5 [.string ⟨#[108, 101, 110]⟩, .string ⟨#[]⟩, .bool false, .string ⟨#[110, 116, 104]⟩, .string ⟨#[105]⟩, .bool false, .string ⟨#[112, 101, 101, 107]⟩, .string ⟨#[]⟩, .bool false, .string ⟨#[112, 111, 112]⟩, .string ⟨#[]⟩, .bool true, .string ⟨#[112, 117, 115, 104]⟩, .string ⟨#[118]⟩, .bool true] rfl rfl
  have hb := (Below.refl w.heap.size w).alloc (Nat.le_refl _) (.cells #[.string ⟨#[108, 101, 110]⟩, .string ⟨#[]⟩, .bool false, .string ⟨#[110, 116, 104]⟩, .string ⟨#[105]⟩, .bool false, .string ⟨#[112, 101, 101, 107]⟩, .string ⟨#[]⟩, .bool false, .string ⟨#[112, 111, 112]⟩, .string ⟨#[]⟩, .bool true, .string ⟨#[112, 117, 115, 104]⟩, .string ⟨#[118]⟩, .bool true] 81)
  have hs : (w.alloc (.cells #[.string ⟨#[108, 101, 110]⟩, .string ⟨#[]⟩, .bool false, .string ⟨#[110, 116, 104]⟩, .string ⟨#[105]⟩, .bool false, .string ⟨#[112, 101, 101, 107]⟩, .string ⟨#[]⟩, .bool false, .string ⟨#[112, 111, 112]⟩, .string ⟨#[]⟩, .bool true, .string ⟨#[112, 117, 115, 104]⟩, .string ⟨#[118]⟩, .bool true] 81)).heap.size = w.heap.size + 1 := by simp
  rw [← hs] at hr
  have fin : MethsRes w (.returned (.slice (some ⟨w.heap.size, 0, none⟩) 5 5)) (w.alloc (.cells #[.string ⟨#[108, 101, 110]⟩, .string ⟨#[]⟩, .bool false, .string ⟨#[110, 116, 104]⟩, .string ⟨#[105]⟩, .bool false, .string ⟨#[112, 101, 101, 107]⟩, .string ⟨#[]⟩, .bool false, .string ⟨#[112, 111, 112]⟩, .string ⟨#[]⟩, .bool true, .string ⟨#[112, 117, 115, 104]⟩, .string ⟨#[118]⟩, .bool true] 81)) := by
    refine ⟨_, 5, 5, rfl, by decide, by decide, Nat.le_refl _, ⟨_, hr, fun j hj => ?_⟩, hb⟩
    have : j = 0 ∨ j = 1 ∨ j = 2 ∨ j = 3 ∨ j = 4 := by omega
    rcases this with rfl | rfl | rfl | rfl | rfl
    · exact ⟨[108, 101, 110], rfl, by decide⟩
    · exact ⟨[110, 116, 104], rfl, by decide⟩
    · exact ⟨[112, 101, 101, 107], rfl, by decide⟩
    · exact ⟨[112, 111, 112], rfl, by decide⟩
    · exact ⟨[112, 117, 115, 104], rfl, by decide⟩
  replace fin := Lib.hid fin
  clear hr hb hs
  go_enter Try.func29, Try.ntmps29
  go_wp2_with fail
  go_ret
  exact fin.out

theorem methods_register (w : World) : Calls Try.prog 29 #[.string ⟨#[114, 101, 103, 105, 115, 116, 101, 114]⟩] w (MethsRes w) := by
  have hr := Reads.lit (size := 3) w #[.string ⟨#[99, 97, 115]⟩, .string ⟨#[118, 118]⟩, .bool true, .string ⟨#[103, 101, 116]⟩, .string ⟨#[]⟩, .bool false, .string ⟨#[115, 101, 116]⟩, .string ⟨#[118]⟩, .bool true] 81 (0, 0) 3 [.string ⟨#[99, 97, 115]⟩, .string ⟨#[118, 118]⟩, .bool true, .string ⟨#[103, 101, 116]⟩, .string ⟨#[]⟩, .bool false, .string ⟨#[115, 101, 116]⟩, .string ⟨#[118]⟩, .bool true] rfl rfl
  have hb := (Below.refl w.heap.size w).alloc (Nat.le_refl _) (.cells #[.string ⟨#[99, 97, 115]⟩, .string ⟨#[118, 118]⟩, .bool true, .string ⟨#[103, 101, 116]⟩, .string ⟨#[]⟩, .bool false, .string ⟨#[115, 101, 116]⟩, .string ⟨#[118]⟩, .bool true] 81)
  have hs : (w.alloc (.cells #[.string ⟨#[99, 97, 115]⟩, .string ⟨#[118, 118]⟩, .bool true, .string ⟨#[103, 101, 116]⟩, .string ⟨#[]⟩, .bool false, .string ⟨#[115, 101, 116]⟩, .string ⟨#[118]⟩, .bool true] 81)).heap.size = w.heap.size + 1 := by simp
  rw [← hs] at hr
  have fin : MethsRes w (.returned (.slice (some ⟨w.heap.size, 0, none⟩) 3 3)) (w.alloc (.cells #[.string ⟨#[99, 97, 115]⟩, .string ⟨#[118, 118]⟩, .bool true, .string ⟨#[103, 101, 116]⟩, .string ⟨#[]⟩, .bool false, .string ⟨#[115, 101, 116]⟩, .string ⟨#[118]⟩, .bool true] 81)) := by
    refine ⟨_, 3, 3, rfl, by decide, by decide, Nat.le_refl _, ⟨_, hr, fun j hj => ?_⟩, hb⟩
    have : j = 0 ∨ j = 1 ∨ j = 2 := by omega
    rcases this with rfl | rfl | rfl
    · exact ⟨[99, 97, 115], rfl, by decide⟩
    · exact ⟨[103, 101, 116], rfl, by decide⟩
    · exact ⟨[115, 101, 116], rfl, by decide⟩
  replace fin := Lib.hid fin
  clear hr hb hs
  go_enter Try.func29, Try.ntmps29
  go_wp2_with fail
  go_ret
  exact fin.out

theorem methods_table (w : World) : Calls Try.prog 29 #[.string ⟨#[116, 97, 98, 108, 101]⟩] w (MethsRes w) := by
  have hr := Reads.lit (size := 3) w #[.string ⟨#[100, 101, 108]⟩, .string ⟨#[110]⟩, .bool true, .string ⟨#[103, 101, 116]⟩, .string ⟨#[110]⟩, .bool false, .string ⟨#[107, 101, 121, 115]⟩, .string ⟨#[]⟩, .bool false, .string ⟨#[112, 117, 116]⟩, .string ⟨#[110, 118]⟩, .bool true, .string ⟨#[115, 105, 122, 101]⟩, .string ⟨#[]⟩, .bool false] 81 (0, 0) 5 [.string ⟨#[100, 101, 108]⟩, .string ⟨#[110]⟩, .bool true, .string ⟨#[103, 101, 116]⟩, .string ⟨#[110]⟩, .bool false, .string ⟨#[107, 101, 121, 115]⟩, .string ⟨#[]⟩, .bool false, .string ⟨#[112, 117, 116]⟩, .string ⟨#[110, 118]⟩, .bool true, .string ⟨#[115, 105, 122, 101]⟩, .string ⟨#[]⟩, .bool false] rfl rfl
  have hb := (Below.refl w.heap.size w).alloc (Nat.le_refl _) (.cells #[.string ⟨#[100, 101, 108]⟩, .string ⟨#[110]⟩, .bool true, .string ⟨#[103, 101, 116]⟩, .string ⟨#[110]⟩, .bool false, .string ⟨#[107, 101, 121, 115]⟩, .string ⟨#[]⟩, .bool false, .string ⟨#[112, 117, 116]⟩, .string ⟨#[110, 118]⟩, .bool true, .string ⟨#[115, 105, 122, 101]⟩, .string ⟨#[]⟩, .bool false] 81)
  have hs : (w.alloc (.cells #[.string ⟨#[100, 101, 108]⟩, .string ⟨#[110]⟩, .bool true, .string ⟨#[103, 101, 116]⟩, .string ⟨#[110]⟩, .bool false, .string ⟨#[107, 101, 121, 115]⟩, .string ⟨#[]⟩, .bool false, .string ⟨#[112, 117, 116]⟩, .string ⟨#[110, 118]⟩, .bool true, .string ⟨#[115, 105, 122, 101]⟩, .string ⟨#[]⟩, .bool false] 81)).heap.size = w.heap.size + 1 := by simp
  rw [← hs] at hr
  have fin : MethsRes w (.returned (.slice (some ⟨w.heap.size, 0, none⟩) 5 5)) (w.alloc (.cells #[.string ⟨#[100, 101, 108]⟩, .string ⟨#[110]⟩, .bool true, .string ⟨#[103, 101, 116]⟩, .string ⟨#[110]⟩, .bool false, .string ⟨#[107, 101, 121, 115]⟩, .string ⟨#[]⟩, .bool false, .string ⟨#[112, 117, 116]⟩, .string ⟨#[110, 118]⟩, .bool true, .string ⟨#[115, 105, 122, 101]⟩, .string ⟨#[]⟩, .bool false] 81)) := by
    refine ⟨_, 5, 5, rfl, by decide, by decide, Nat.le_refl _, ⟨_, hr, fun j hj => ?_⟩, hb⟩
    have : j = 0 ∨ j = 1 ∨ j = 2 ∨ j = 3 ∨ j = 4 := by omega
    rcases this with rfl | rfl | rfl | rfl | rfl
    · exact ⟨[100, 101, 108], rfl, by decide⟩
    · exact ⟨[103, 101, 116], rfl, by decide⟩
    · exact ⟨[107, 101, 121, 115], rfl, by decide⟩
    · exact ⟨[112, 117, 116], rfl, by decide⟩
    · exact ⟨[115, 105, 122, 101], rfl, by decide⟩
  replace fin := Lib.hid fin
  clear hr hb hs
  go_enter Try.func29, Try.ntmps29
  go_wp2_with fail
  go_ret
  exact fin.out

theorem methods_walk (w : World) {s : ByteArray} (h : IsClass s) : Calls Try.prog 29 #[.string s] w (MethsRes w) := by
  obtain ⟨c, hc, rfl⟩ := h
  simp only [classes, List.mem_cons, List.not_mem_nil, or_false] at hc
  rcases hc with rfl | rfl | rfl | rfl | rfl | rfl
  · exact methods_counter w
  · exact methods_ledger w
  · exact methods_orch w
  · exact methods_queue w
  · exact methods_register w
  · exact methods_table w

def StrsRes (w : World) (e : Ending) (w' : World) : Prop := ∃ A n c, e = .returned (.slice A n c) ∧ 0 < n ∧ n ≤ 7 ∧ n ≤ c ∧ Strs w' w'.heap.size A n ∧ Below w.heap.size w w'
structure MeRel (w w1 wr : World) (N j : Nat) (A1 : Option Addr) (c1 : Nat) (xs1 : List Value) : Prop where
  jN : j ≤ N
  ho : Own wr 9 1 A1 j c1 xs1
  hA : ∀ g, bOf A1 = some g → w1.heap.size ≤ g
  hx : ∀ i, i < j → ∃ s : List UInt8, xs1[i]? = some (.string (bstr s)) ∧ s.length ≤ 8
  hb : Below w1.heap.size w1 wr

set_option maxHeartbeats 3200000 in
theorem meths_walk (w : World) {s : ByteArray} (h : IsClass s) : Calls Try.prog 15 #[.string s] w (StrsRes w) := by
  obtain ⟨i0, hi, hz0, hz1, hz2⟩ := info_parts info_str
  have hm := methods_walk w h
  replace hm := Lib.hid hm
  clear h
  go_enter Try.func15, Try.ntmps15
  go_wp2_with fail
  refine hm.out.mono ?_
  rintro e w1 ⟨A, N, c, rfl, hN0, hN7, hNc, ⟨ys, hr, hs⟩, hb1⟩
  try dsimp only
  replace hr := Lib.hid hr
  replace hs := Lib.hid hs
  clear hm
  go_wp2_with fail
  go_loopw [4, 5] (fun s4 s5 wr => ∃ (j : Nat) (A1 : Option Addr) (c1 : Nat) (xs1 : List Value), s4 = .slice A1 j c1 ∧ s5 = .int .i64 (j : Int) ∧ MeRel w w1 wr N j A1 c1 xs1) (fun _ s5 _ => N + 1 - (intOf s5).toNat)
  case atStart => exact ⟨0, none, 0, [], rfl, rfl, ⟨Nat.zero_le _, Own.none_, by simp [bOf], fun i hi => absurd hi (by omega), Below.refl _ _⟩⟩
  case round =>
    obtain ⟨j, A1, c1, xs1, rfl, rfl, hjN, ho, hA, hx, hb⟩ := hrel
    by_cases hlt : j < N
    · obtain ⟨t, ht, htl⟩ := hs.out j hlt
      obtain ⟨ad, rfl, -, hc⟩ := (hr.out.below hb).2 (by omega)
      have hcell := hc _ _ ht
      obtain ⟨T, hT⟩ : ∃ T, bstr t = T := ⟨_, rfl⟩
      rw [hT] at hcell
      have d1 : decide ((j : Int) < (N : Int)) = true := decide_eq_true (by omega)
      have hsrc := Reads.lit (size := 1) wr #[.string T] 9 (0, 0) 1 [.string T] rfl rfl
      have hb2 := hb.alloc hb.size (.cells #[.string T] 9)
      have ho2 := ho.alloc (.cells #[.string T] 9)
      have hnw : IntKind.i64.wrap ((j : Int) + 1) = ((j + 1 : Nat) : Int) := by rw [IntKind.wrap_i64]; omega
      have hone : ∀ u ∈ ([.string T] : List Value), u.oneCell' = true := by intro u hu; simp only [List.mem_cons, List.not_mem_nil, or_false] at hu; subst hu; rfl
      have hxl := ho.1
      clear hc ht
      replace hT := Lib.hid hT
      replace hxl := Lib.hid hxl
      go_wp2_with (at_builtin; go_must (refine wpList_append_mine rfl _ _ 59 59 rfl 9 i0 _ 1 16 Try.underlying59 hi hz0 hz1 hz2 rfl rfl ho2 rfl (Src.ofReads Try.underlying59 _ hsrc hone) (by unfold maxLen; omega) (by omega) (fun A8 c8 w8 ho8 hg8 hat8 => ?_)))
      have hb8 := hb2.grown hg8 hb2.size (fun g hg => hA g hg)
      have hA8 : ∀ g, bOf A8 = some g → w1.heap.size ≤ g := fun g hg => by
        rcases hat8 with h | h <;> rw [h] at hg
        · exact hA g hg
        · cases hg; exact hb2.size
      have hx8 : ∀ i, i < j + 1 → ∃ s : List UInt8, (xs1 ++ [.string T])[i]? = some (.string (bstr s)) ∧ s.length ≤ 8 := fun i hi => by
        have hxl := hxl.out
        rcases Nat.lt_or_ge i j with h | h
        · obtain ⟨s, h1, h2⟩ := hx i h
          exact ⟨s, by rw [List.getElem?_append_left (by omega)]; exact h1, h2⟩
        · have : i = j := by omega
          subst this
          exact ⟨t, by rw [List.getElem?_append_right (by omega), hT.out]; simp [hxl], htl⟩
      clear hcell hsrc hb2 ho2 hone hg8 hat8
      go_roundw
      case rel => exact ⟨j + 1, A8, c8, _, rfl, rfl, ⟨by omega, ho8, hA8, hx8, hb8⟩⟩
      case measure => simp [intOf]; omega
    · have d1 : decide ((j : Int) < (N : Int)) = false := decide_eq_false (by omega)
      obtain rfl : j = N := by omega
      have fin : StrsRes w (.returned (.slice A1 j c1)) wr := ⟨A1, j, c1, rfl, hN0, hN7, ho.le_cap, ⟨xs1, ho.reads_, hx⟩, below_then hb hb1⟩
      replace fin := Lib.hid fin
      go_wp2_with fail
      go_ret
      exact fin.out
end Go.Proofs.Ytlkokkbikkbaoaa
