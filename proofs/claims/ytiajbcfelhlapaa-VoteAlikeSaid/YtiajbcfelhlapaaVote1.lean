/- Vote: like, decide. -/
import Derived.Test.YtiajbcfelhlapaaAlike
namespace Go.Proofs.Ytiajbcfelhlapaa
open Go.RowKit

/-- A reply to the vote's call, its value flat. -/
structure FR where
  e : Int
  k : Int
  i : Int
  f : Nat

/-- The row of a vote's replies. -/
structure LRow (w : World) (B : Nat) (c s n : Int) (L : List FR) (A : Option Addr) (xs : List Value) : Prop where
  hr : Reads w B 9 A L.length xs
  hx : ∀ (j : Nat) (x : FR), L[j]? = some x → (xs.drop (j * 9)).take 9 = [.int .u32 c, .int .u32 s, .int .u16 n, .int .i64 x.e, .int .i64 x.k, .int .i64 x.i, .float .f64 x.f, .string ⟨#[]⟩, .slice none 0 0] ∧ FlatC x.k x.i x.f

theorem LRow.elem {w : World} {B : Nat} {c s n : Int} {L : List FR} {A : Option Addr} {xs : List Value} (h : LRow w B c s n L A xs) {j : Nat} {x : FR} (hx : L[j]? = some x) :
    ∃ ad, A = some ad ∧ ad.block < B ∧ FlatC x.k x.i x.f ∧ w.cell? (ad.add (j * 9)) = some (.int .u32 c) ∧ w.cell? ⟨(ad.add (j * 9)).block, (ad.add (j * 9)).off + 1, none⟩ = some (.int .u32 s) ∧ w.cell? ⟨(ad.add (j * 9)).block, (ad.add (j * 9)).off + 2, none⟩ = some (.int .u16 n) ∧ w.cell? ⟨(ad.add (j * 9)).block, (ad.add (j * 9)).off + 3, none⟩ = some (.int .i64 x.e) ∧ w.cell? ⟨(ad.add (j * 9)).block, (ad.add (j * 9)).off + 4, none⟩ = some (.int .i64 x.k) ∧ w.cell? ⟨(ad.add (j * 9)).block, (ad.add (j * 9)).off + 5, none⟩ = some (.int .i64 x.i) ∧ w.cell? ⟨(ad.add (j * 9)).block, (ad.add (j * 9)).off + 6, none⟩ = some (.float .f64 x.f) ∧ w.cell? ⟨(ad.add (j * 9)).block, (ad.add (j * 9)).off + 7, none⟩ = some (.string ⟨#[]⟩) ∧ w.cell? ⟨(ad.add (j * 9)).block, (ad.add (j * 9)).off + 8, none⟩ = some (.slice none 0 0) := by
  have hj := (List.getElem?_eq_some_iff.1 hx).1
  obtain ⟨ad, e, hb, hc⟩ := h.hr.2 (by omega)
  obtain ⟨hcell, hf⟩ := h.hx j x hx
  have hl : j * 9 + 9 ≤ xs.length := by rw [h.hr.1]; omega
  have hg : ∀ q u, q < 9 → ([.int .u32 c, .int .u32 s, .int .u16 n, .int .i64 x.e, .int .i64 x.k, .int .i64 x.i, .float .f64 x.f, .string ⟨#[]⟩, .slice none 0 0] : List Value)[q]? = some u → xs[j * 9 + q]? = some u := by
    intro q u hq hu
    rw [← hcell, List.getElem?_take, if_pos hq, List.getElem?_drop] at hu
    exact hu
  have g0 := hc (j * 9 + 0) _ (hg 0 _ (by omega) rfl)
  have g1 := hc (j * 9 + (0 + 1)) _ (hg 1 _ (by omega) rfl)
  have g2 := hc (j * 9 + (1 + 1)) _ (hg 2 _ (by omega) rfl)
  have g3 := hc (j * 9 + (2 + 1)) _ (hg 3 _ (by omega) rfl)
  have g4 := hc (j * 9 + (3 + 1)) _ (hg 4 _ (by omega) rfl)
  have g5 := hc (j * 9 + (4 + 1)) _ (hg 5 _ (by omega) rfl)
  have g6 := hc (j * 9 + (5 + 1)) _ (hg 6 _ (by omega) rfl)
  have g7 := hc (j * 9 + (6 + 1)) _ (hg 7 _ (by omega) rfl)
  have g8 := hc (j * 9 + (7 + 1)) _ (hg 8 _ (by omega) rfl)
  rw [add_pos] at g1 g2 g3 g4 g5 g6 g7 g8
  exact ⟨ad, e, hb, hf, g0, g1, g2, g3, g4, g5, g6, g7, g8⟩

def countL (L : List FR) (e k i : Int) : Nat := L.countP (fun x => alikeF x.e x.k x.i e k i)
theorem countL_next (L : List FR) (e k i : Int) (j : Nat) (hlt : j < L.length) : countL (L.take (j + 1)) e k i = countL (L.take j) e k i + (if alikeF L[j].e L[j].k L[j].i e k i then 1 else 0) := by
  unfold countL
  rw [List.take_succ_eq_append_getElem hlt, List.countP_append]
  simp [List.countP_cons]

set_option maxHeartbeats 1600000 in
theorem like_flat (p B : Nat) (c s n e k i : Int) (f : Nat) (L : List FR) (A : Option Addr) (cl : Nat) (xs : List Value) (w : World) (hp : w.cell? ⟨p, 6, none⟩ = some (.slice A L.length cl)) (hrow : LRow w B c s n L A xs) (hB : B ≤ w.heap.size) (hL : L.length ≤ 1000) (hf : FlatV k f) :
    Calls Try.prog 47 #[.pointer (some ⟨p, 0, none⟩), .agg #[.int .u32 c, .int .u32 s, .int .u16 n, .int .i64 e, .int .i64 k, .int .i64 i, .float .f64 f, .string ⟨#[]⟩, .slice none 0 0]] w (Says w (.int .i64 (countL L e k i : Int))) := by
  have hsf := fun a k x m w => run_store_float (P := Try.prog) a k x m w
  have hpl := World.block_lt_of_cell? w _ hp
  have hbl := (Below.refl w.heap.size w).alloc (Nat.le_refl _) (.cells #[.int .u32 c, .int .u32 s, .int .u16 n, .int .i64 e, .int .i64 k, .int .i64 i, .float .f64 f, .string ⟨#[]⟩, .slice none 0 0] 32)
  have hbx := Blk.new w 32 #[.int .u32 c, .int .u32 s, .int .u16 n, .int .i64 e, .int .i64 k, .int .i64 i, .float .f64 f, .string ⟨#[]⟩, .slice none 0 0]
  have hp1 := (hbl.cell hpl).trans hp
  have hB1 : B ≤ (w.alloc (.cells #[.int .u32 c, .int .u32 s, .int .u16 n, .int .i64 e, .int .i64 k, .int .i64 i, .float .f64 f, .string ⟨#[]⟩, .slice none 0 0] 32)).heap.size := Nat.le_trans hB hbl.size
  have hrow1 : LRow (w.alloc (.cells #[.int .u32 c, .int .u32 s, .int .u16 n, .int .i64 e, .int .i64 k, .int .i64 i, .float .f64 f, .string ⟨#[]⟩, .slice none 0 0] 32)) B c s n L A xs := ⟨hrow.hr.below (hbl.mono hB), hrow.hx⟩
  go_enter Try.func47, Try.ntmps47
  go_wp2_with fail
  generalize w.alloc (.cells #[.int .u32 c, .int .u32 s, .int .u16 n, .int .i64 e, .int .i64 k, .int .i64 i, .float .f64 f, .string ⟨#[]⟩, .slice none 0 0] 32) = w1 at *
  obtain ⟨b, hb0⟩ : ∃ b, w.heap.size = b := ⟨_, rfl⟩
  rw [hb0] at hbx hbl ⊢
  replace hb0 := Lib.hid hb0
  go_loopw [5, 13] (fun cnt ii wr => ∃ (j z : Nat), j ≤ L.length ∧ ii = .int .i64 (j : Int) ∧ cnt = .int .i64 (z : Int) ∧ z = countL (L.take j) e k i ∧ Below w1.heap.size w1 wr) (fun _ ii _ => L.length - (intOf ii).toNat)
  case atStart => exact ⟨0, 0, Nat.zero_le _, rfl, rfl, rfl, Below.refl _ _⟩
  case round =>
    obtain ⟨j, z, hj, rfl, rfl, hz, hb⟩ := hrel
    have hzl : z ≤ 1000 := by
      have h1 : countL (L.take j) e k i ≤ (L.take j).length := List.countP_le_length
      rw [List.length_take] at h1
      omega
    replace hz := Lib.hid hz
    by_cases hlt : j < L.length
    · have hgk : L[j]? = some L[j] := List.getElem?_eq_getElem hlt
      have hrow2 : LRow wr B c s n L A xs := ⟨hrow1.hr.below (hb.mono hB1), hrow1.hx⟩
      obtain ⟨ad, hA, -, hfx, g0, g1, g2, g3, g4, g5, g6, g7, g8⟩ := hrow2.elem hgk
      subst hA
      have hnx := countL_next L e k i j hlt
      have hbxr := hbx.below hb hbx.lt
      generalize L[j] = x at *
      obtain ⟨q, hq⟩ : ∃ q, alikeF x.e x.k x.i e k i = q := ⟨_, rfl⟩
      have hal := fun w2 => alike_flat c s n x.e x.k x.i e k i x.f f w2 hfx.flat hf
      rw [hq] at hal hnx
      have hb1 := hb.alloc hb.size (.cells #[.int .u32 c, .int .u32 s, .int .u16 n, .int .i64 x.e, .int .i64 x.k, .int .i64 x.i, .float .f64 x.f, .string ⟨#[]⟩, .slice none 0 0] 32)
      have hbx2 := hbxr.alloc (.cells #[.int .u32 c, .int .u32 s, .int .u16 n, .int .i64 x.e, .int .i64 x.k, .int .i64 x.i, .float .f64 x.f, .string ⟨#[]⟩, .slice none 0 0] 32)
      have r0 := hbx2.cell 0
      have r1 := hbx2.cell 1
      have r2 := hbx2.cell 2
      have r3 := hbx2.cell 3
      have r4 := hbx2.cell 4
      have r5 := hbx2.cell 5
      have r6 := hbx2.cell 6
      have r7 := hbx2.cell 7
      have r8 := hbx2.cell 8
      replace hnx := Lib.hid hnx
      clear hq hfx hgk
      go_wp2_with fail
      refine (hal _).mono ?_
      clear hal
      rintro e9 w3 ⟨rfl, hb3⟩
      dsimp only
      have hb3' := below_then hb3 hb1
      clear g0 g1 g2 g3 g4 g5 g6 g7 g8 r0 r1 r2 r3 r4 r5 r6 r7 r8 hbx2 hbxr hb1
      cases q
      · go_wp2_with fail
        go_roundw
        case rel => exact ⟨j + 1, z, by omega, by simp, rfl, by rw [hnx.out, hz.out]; rfl, by assumption⟩
        case measure => simp [intOf]; omega
      · go_wp2_with fail
        go_roundw
        case rel => exact ⟨j + 1, z + 1, by omega, by simp, by simp, by rw [hnx.out, hz.out]; rfl, by assumption⟩
        case measure => simp [intOf]; omega
    · have hj' : j = L.length := by omega
      subst hj'
      rw [List.take_length] at hz
      have hfin := hbl.trans (hb.mono (Nat.le_of_lt hbx.lt))
      go_wp2_with fail
      go_ret
      exact ⟨by show Ending.returned (.int .i64 (z : Int)) = _; rw [hz.out], by rw [hb0.out]; exact hfin⟩
end Go.Proofs.Ytiajbcfelhlapaa
