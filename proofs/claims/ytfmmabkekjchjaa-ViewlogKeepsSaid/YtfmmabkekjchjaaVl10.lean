/- choirlaw26.known. -/
import Derived.Test.YtfmmabkekjchjaaVl9
set_option linter.unusedSimpArgs false
set_option linter.unusedVariables false
namespace Go.Proofs.Ytfmmabkekjchjaa
open Go.RowKit
set_option maxRecDepth 100000

theorem rps_two {w : World} {B c1 c2 : Nat} {A A1 A2 : Option Addr} {x y : RpD} (hx : ∃ ys cst, LogR w B A1 c1 x.l ys cst) (hy : ∃ ys cst, LogR w B A2 c2 y.l ys cst) (hl : x.l.length ≤ 1000 ∧ y.l.length ≤ 1000)
    (hr : Reads w B 4 A 2 [.int .i64 x.f, .int .u64 (x.v : Int), .slice A1 x.l.length c1, .int .i64 x.s, .int .i64 y.f, .int .u64 (y.v : Int), .slice A2 y.l.length c2, .int .i64 y.s]) :
    RpsR w B A [x, y] [.int .i64 x.f, .int .u64 (x.v : Int), .slice A1 x.l.length c1, .int .i64 x.s, .int .i64 y.f, .int .u64 (y.v : Int), .slice A2 y.l.length c2, .int .i64 y.s] (fun j => if j = 0 then A1 else A2) (fun j => if j = 0 then c1 else c2) := by
  refine ⟨hr, fun j z hj => ?_, fun j z hj => ?_, fun z hz => ?_⟩
  · rcases j with _ | _ | j
    · simp at hj; subst hj; exact hx
    · simp at hj; subst hj; exact hy
    · simp at hj
  · rcases j with _ | _ | j
    · simp at hj; subst hj; rfl
    · simp at hj; subst hj; rfl
    · simp at hj
  · simp at hz
    rcases hz with rfl | rfl
    · exact hl.1
    · exact hl.2

set_option maxHeartbeats 6400000 in
theorem known_true (w : World) : Calls Try.prog 7 #[] w (Says w (.bool true)) := by
  have hlog1 : Reads (w.alloc (.cells #[.int .u64 2, .int .u32 0, .int .u32 0, .int .u16 0, .string ⟨#[]⟩, .string ⟨#[]⟩, .slice none 0 0] 54)) (w.heap.size + 1) 7 (some ⟨w.heap.size, 0, none⟩) 1 (entRow kla) := Reads.lit w #[.int .u64 2, .int .u32 0, .int .u32 0, .int .u16 0, .string ⟨#[]⟩, .string ⟨#[]⟩, .slice none 0 0] 54 (0, 0) 1 (entRow kla) rfl rfl
  have hLa := logR_flat (l := kla) (c := 1) hlog1 (by decide) (by simp) (by intro x hx; simp [kla] at hx; subst hx; decide)
  have hb1 := (Below.refl w.heap.size w).alloc (Nat.le_refl _) (.cells #[.int .u64 2, .int .u32 0, .int .u32 0, .int .u16 0, .string ⟨#[]⟩, .string ⟨#[]⟩, .slice none 0 0] 54)
  have hLs : (w.alloc (.cells #[.int .u64 2, .int .u32 0, .int .u32 0, .int .u16 0, .string ⟨#[]⟩, .string ⟨#[]⟩, .slice none 0 0] 54)).heap.size = w.heap.size + 1 := by simp
  have ha1 := (Blk.new (w.alloc (.cells #[.int .u64 2, .int .u32 0, .int .u32 0, .int .u16 0, .string ⟨#[]⟩, .string ⟨#[]⟩, .slice none 0 0] 54)) 31 #[.int .i64 0, .int .u64 3, .slice none 0 0, .int .i64 0]).alloc (.cells #[.int .i64 1, .int .u64 2, .slice (some ⟨w.heap.size, 0, none⟩) 1 1, .int .i64 0] 31)
  have hb2 := Blk.new ((w.alloc (.cells #[.int .u64 2, .int .u32 0, .int .u32 0, .int .u16 0, .string ⟨#[]⟩, .string ⟨#[]⟩, .slice none 0 0] 54)).alloc (.cells #[.int .i64 0, .int .u64 3, .slice none 0 0, .int .i64 0] 31)) 31 #[.int .i64 1, .int .u64 2, .slice (some ⟨w.heap.size, 0, none⟩) 1 1, .int .i64 0]
  have hbl := (hb1.alloc (by simp) (.cells #[.int .i64 0, .int .u64 3, .slice none 0 0, .int .i64 0] 31)).alloc (by simp; omega) (.cells #[.int .i64 1, .int .u64 2, .slice (some ⟨w.heap.size, 0, none⟩) 1 1, .int .i64 0] 31)
  have hLb : Below (w.heap.size + 1) (w.alloc (.cells #[.int .u64 2, .int .u32 0, .int .u32 0, .int .u16 0, .string ⟨#[]⟩, .string ⟨#[]⟩, .slice none 0 0] 54)) (((w.alloc (.cells #[.int .u64 2, .int .u32 0, .int .u32 0, .int .u16 0, .string ⟨#[]⟩, .string ⟨#[]⟩, .slice none 0 0] 54)).alloc (.cells #[.int .i64 0, .int .u64 3, .slice none 0 0, .int .i64 0] 31)).alloc (.cells #[.int .i64 1, .int .u64 2, .slice (some ⟨w.heap.size, 0, none⟩) 1 1, .int .i64 0] 31)) := ((Below.refl (w.heap.size + 1) (w.alloc (.cells #[.int .u64 2, .int .u32 0, .int .u32 0, .int .u16 0, .string ⟨#[]⟩, .string ⟨#[]⟩, .slice none 0 0] 54))).alloc (by simp) (.cells #[.int .i64 0, .int .u64 3, .slice none 0 0, .int .i64 0] 31)).alloc (by simp) (.cells #[.int .i64 1, .int .u64 2, .slice (some ⟨w.heap.size, 0, none⟩) 1 1, .int .i64 0] 31)
  rw [World.size_alloc] at hb2
  rw [hLs] at ha1 hb2
  have hL2 := hLa.below hLb
  go_enter Try.func7, Try.ntmps7
  go_upto_region 2 with (fail)
  generalize ((w.alloc (.cells #[.int .u64 2, .int .u32 0, .int .u32 0, .int .u16 0, .string ⟨#[]⟩, .string ⟨#[]⟩, .slice none 0 0] 54)).alloc (.cells #[.int .i64 0, .int .u64 3, .slice none 0 0, .int .i64 0] 31)).alloc (.cells #[.int .i64 1, .int .u64 2, .slice (some ⟨w.heap.size, 0, none⟩) 1 1, .int .i64 0] 31) = w2 at *
  clear hLb hLa hlog1 hb1 hLs
  have hac := ha1.st4
  have hbc := hb2.st4
  have hrow := Reads.lit (size := 4) w2 #[.int .i64 1, .int .u64 2, .slice (some ⟨w.heap.size, 0, none⟩) 1 1, .int .i64 0, .int .i64 0, .int .u64 3, .slice none 0 0, .int .i64 0] 31 (0, 0) 2 [.int .i64 1, .int .u64 2, .slice (some ⟨w.heap.size, 0, none⟩) 1 1, .int .i64 0, .int .i64 0, .int .u64 3, .slice none 0 0, .int .i64 0] rfl rfl
  have hb3 := hbl.alloc hbl.size (.cells #[.int .i64 1, .int .u64 2, .slice (some ⟨w.heap.size, 0, none⟩) 1 1, .int .i64 0, .int .i64 0, .int .u64 3, .slice none 0 0, .int .i64 0] 31)
  have hw2 := hb2.lt
  have hL3 : ∃ ys cst, LogR (w2.alloc (.cells #[.int .i64 1, .int .u64 2, .slice (some ⟨w.heap.size, 0, none⟩) 1 1, .int .i64 0, .int .i64 0, .int .u64 3, .slice none 0 0, .int .i64 0] 31)) (w2.heap.size + 1) (some ⟨w.heap.size, 0, none⟩) 1 kla ys cst := ⟨_, _, (hL2.below (((Below.refl w2.heap.size w2).alloc (Nat.le_refl _) _).mono (by omega))).up (by omega)⟩
  have hR3 := rps_two (x := krb) (y := kra) (A1 := some ⟨w.heap.size, 0, none⟩) (c1 := 1) (A2 := none) (c2 := 0) hL3 ⟨_, _, LogR.nil _ _⟩ ⟨by decide, by decide⟩ hrow
  have hch := vl_choose (n := 3) (c := 2) hR3 (by simp) (by decide)
  replace ha1 := ha1.alloc (.cells #[.int .i64 1, .int .u64 2, .slice (some ⟨w.heap.size, 0, none⟩) 1 1, .int .i64 0, .int .i64 0, .int .u64 3, .slice none 0 0, .int .i64 0] 31)
  replace hb2 := hb2.alloc (.cells #[.int .i64 1, .int .u64 2, .slice (some ⟨w.heap.size, 0, none⟩) 1 1, .int .i64 0, .int .i64 0, .int .u64 3, .slice none 0 0, .int .i64 0] 31)
  replace hL2 := hL2.below (((Below.refl w2.heap.size w2).alloc (Nat.le_refl _) (.cells #[.int .i64 1, .int .u64 2, .slice (some ⟨w.heap.size, 0, none⟩) 1 1, .int .i64 0, .int .i64 0, .int .u64 3, .slice none 0 0, .int .i64 0] 31)).mono (by omega))
  clear hR3 hL3 hrow
  replace hch := Lib.hid hch
  go_wp2_with fail
  generalize w2.alloc (.cells #[.int .i64 1, .int .u64 2, .slice (some ⟨w.heap.size, 0, none⟩) 1 1, .int .i64 0, .int .i64 0, .int .u64 3, .slice none 0 0, .int .i64 0] 31) = w3 at *
  refine hch.out.mono ?_
  rintro e w4 ⟨hb4', ⟨hf, -⟩ | ⟨-, A4, c4, xs4, css4, rfl, P4⟩⟩
  · rw [k_ch1.1] at hf; cases hf
  rw [k_ch1.2]
  generalize ((chooseS 3 [krb, kra]).1.v : Int) = v4
  generalize (chooseS 3 [krb, kra]).1.l.length = n4
  generalize chSure 3 [krb, kra] = s4
  try dsimp only
  clear P4 hch hac hbc
  have hw3 := hb2.lt
  have hb4 := below_then hb4' hb3
  replace ha1 := ha1.below hb4' (by omega)
  replace hb2 := hb2.below hb4' hw3
  replace hL2 := hL2.below (hb4'.mono (by omega))
  have hb5 := hb4.alloc hb4.size (.cells #[.int .i64 0, .int .u64 v4, .slice A4 n4 c4, .int .i64 s4] 31)
  have hc5 := Blk.new w4 31 #[.int .i64 0, .int .u64 v4, .slice A4 n4 c4, .int .i64 s4]
  have hw4 := hb2.lt
  replace ha1 := ha1.alloc (.cells #[.int .i64 0, .int .u64 v4, .slice A4 n4 c4, .int .i64 s4] 31)
  replace hb2 := hb2.alloc (.cells #[.int .i64 0, .int .u64 v4, .slice A4 n4 c4, .int .i64 s4] 31)
  replace hL2 := hL2.below (((Below.refl w4.heap.size w4).alloc (Nat.le_refl _) (.cells #[.int .i64 0, .int .u64 v4, .slice A4 n4 c4, .int .i64 s4] 31)).mono (by omega))
  clear hb3 hb4' hbl
  go_upto_region 3 with (fail)
  obtain ⟨cb, hcb⟩ : ∃ cb, w4.heap.size = cb := ⟨_, rfl⟩
  rw [hcb] at hc5 ⊢
  generalize w4.alloc (.cells #[.int .i64 0, .int .u64 v4, .slice A4 n4 c4, .int .i64 s4] 31) = w5 at *
  have hcl := hc5.lt
  have hac := ha1.st4
  have hrow := Reads.lit (size := 4) w5 #[.int .i64 0, .int .u64 3, .slice none 0 0, .int .i64 0, .int .i64 0, .int .u64 3, .slice none 0 0, .int .i64 0] 31 (0, 0) 2 [.int .i64 0, .int .u64 3, .slice none 0 0, .int .i64 0, .int .i64 0, .int .u64 3, .slice none 0 0, .int .i64 0] rfl rfl
  have hb6 := hb5.alloc hb5.size (.cells #[.int .i64 0, .int .u64 3, .slice none 0 0, .int .i64 0, .int .i64 0, .int .u64 3, .slice none 0 0, .int .i64 0] 31)
  have hR3 := rps_two (x := kra) (y := kra) (A1 := none) (c1 := 0) (A2 := none) (c2 := 0) ⟨_, _, LogR.nil _ _⟩ ⟨_, _, LogR.nil _ _⟩ ⟨by decide, by decide⟩ hrow
  have hch := vl_choose (n := 3) (c := 2) hR3 (by simp) (by decide)
  replace ha1 := ha1.alloc (.cells #[.int .i64 0, .int .u64 3, .slice none 0 0, .int .i64 0, .int .i64 0, .int .u64 3, .slice none 0 0, .int .i64 0] 31)
  replace hb2 := hb2.alloc (.cells #[.int .i64 0, .int .u64 3, .slice none 0 0, .int .i64 0, .int .i64 0, .int .u64 3, .slice none 0 0, .int .i64 0] 31)
  replace hc5 := hc5.alloc (.cells #[.int .i64 0, .int .u64 3, .slice none 0 0, .int .i64 0, .int .i64 0, .int .u64 3, .slice none 0 0, .int .i64 0] 31)
  replace hL2 := hL2.below (((Below.refl w5.heap.size w5).alloc (Nat.le_refl _) (.cells #[.int .i64 0, .int .u64 3, .slice none 0 0, .int .i64 0, .int .i64 0, .int .u64 3, .slice none 0 0, .int .i64 0] 31)).mono (by omega))
  clear hR3 hrow
  replace hch := Lib.hid hch
  go_wp2_with fail
  generalize w5.alloc (.cells #[.int .i64 0, .int .u64 3, .slice none 0 0, .int .i64 0, .int .i64 0, .int .u64 3, .slice none 0 0, .int .i64 0] 31) = w6 at *
  refine hch.out.mono ?_
  rintro e w7 ⟨hb7', ⟨-, rfl⟩ | ⟨hf, -⟩⟩
  rotate_left
  · rw [k_ch2] at hf; cases hf
  try dsimp only
  clear hch hac
  have hw6 := hc5.lt
  have hb7 := below_then hb7' hb6
  replace ha1 := ha1.below hb7' (by omega)
  replace hb2 := hb2.below hb7' (by omega)
  replace hc5 := hc5.below hb7' (by omega)
  replace hL2 := hL2.below (hb7'.mono (by omega))
  have hb8 := hb7.alloc hb7.size (.cells #[.int .i64 0, .int .u64 0, .slice none 0 0, .int .i64 0] 31)
  have hw7 := hc5.lt
  replace ha1 := ha1.alloc (.cells #[.int .i64 0, .int .u64 0, .slice none 0 0, .int .i64 0] 31)
  replace hb2 := hb2.alloc (.cells #[.int .i64 0, .int .u64 0, .slice none 0 0, .int .i64 0] 31)
  replace hc5 := hc5.alloc (.cells #[.int .i64 0, .int .u64 0, .slice none 0 0, .int .i64 0] 31)
  replace hL2 := hL2.below (((Below.refl w7.heap.size w7).alloc (Nat.le_refl _) (.cells #[.int .i64 0, .int .u64 0, .slice none 0 0, .int .i64 0] 31)).mono (by omega))
  clear hb5 hb6 hb7'
  go_upto_region 4 with (fail)
  generalize w7.alloc (.cells #[.int .i64 0, .int .u64 0, .slice none 0 0, .int .i64 0] 31) = w8 at *
  have hw8 := hb2.lt
  have hbc := hb2.st4
  have hlogB : Reads (w8.alloc (.cells #[.int .u64 2, .int .u32 0, .int .u32 0, .int .u16 0, .string ⟨#[]⟩, .string ⟨#[]⟩, .slice none 0 0, .int .u64 3, .int .u32 0, .int .u32 0, .int .u16 0, .string ⟨#[]⟩, .string ⟨#[]⟩, .slice none 0 0] 54)) (w8.heap.size + 1) 7 (some ⟨w8.heap.size, 0, none⟩) 2 (entRow klb) := Reads.lit w8 #[.int .u64 2, .int .u32 0, .int .u32 0, .int .u16 0, .string ⟨#[]⟩, .string ⟨#[]⟩, .slice none 0 0, .int .u64 3, .int .u32 0, .int .u32 0, .int .u16 0, .string ⟨#[]⟩, .string ⟨#[]⟩, .slice none 0 0] 54 (0, 0) 2 (entRow klb) rfl rfl
  have hLb := logR_flat (l := klb) (c := 2) hlogB (by decide) (by simp) (by intro x hx; simp [klb] at hx; rcases hx with rfl | rfl <;> decide)
  have hb9 := hb8.alloc hb8.size (.cells #[.int .u64 2, .int .u32 0, .int .u32 0, .int .u16 0, .string ⟨#[]⟩, .string ⟨#[]⟩, .slice none 0 0, .int .u64 3, .int .u32 0, .int .u32 0, .int .u16 0, .string ⟨#[]⟩, .string ⟨#[]⟩, .slice none 0 0] 54)
  replace ha1 := ha1.alloc (.cells #[.int .u64 2, .int .u32 0, .int .u32 0, .int .u16 0, .string ⟨#[]⟩, .string ⟨#[]⟩, .slice none 0 0, .int .u64 3, .int .u32 0, .int .u32 0, .int .u16 0, .string ⟨#[]⟩, .string ⟨#[]⟩, .slice none 0 0] 54)
  replace hb2 := hb2.alloc (.cells #[.int .u64 2, .int .u32 0, .int .u32 0, .int .u16 0, .string ⟨#[]⟩, .string ⟨#[]⟩, .slice none 0 0, .int .u64 3, .int .u32 0, .int .u32 0, .int .u16 0, .string ⟨#[]⟩, .string ⟨#[]⟩, .slice none 0 0] 54)
  replace hc5 := hc5.alloc (.cells #[.int .u64 2, .int .u32 0, .int .u32 0, .int .u16 0, .string ⟨#[]⟩, .string ⟨#[]⟩, .slice none 0 0, .int .u64 3, .int .u32 0, .int .u32 0, .int .u16 0, .string ⟨#[]⟩, .string ⟨#[]⟩, .slice none 0 0] 54)
  replace hL2 := hL2.below (((Below.refl w8.heap.size w8).alloc (Nat.le_refl _) (.cells #[.int .u64 2, .int .u32 0, .int .u32 0, .int .u16 0, .string ⟨#[]⟩, .string ⟨#[]⟩, .slice none 0 0, .int .u64 3, .int .u32 0, .int .u32 0, .int .u16 0, .string ⟨#[]⟩, .string ⟨#[]⟩, .slice none 0 0] 54)).mono (by omega))
  have hrp := vl_repair (su := 1) (hL2.up (B' := w8.heap.size + 1) (by omega)) hLb (by simp) (by decide) (by decide)
  clear hlogB hLb
  replace hrp := Lib.hid hrp
  go_wp2_with fail
  generalize w8.alloc (.cells #[.int .u64 2, .int .u32 0, .int .u32 0, .int .u16 0, .string ⟨#[]⟩, .string ⟨#[]⟩, .slice none 0 0, .int .u64 3, .int .u32 0, .int .u32 0, .int .u16 0, .string ⟨#[]⟩, .string ⟨#[]⟩, .slice none 0 0] 54) = w9 at *
  refine hrp.out.mono ?_
  rintro e w10 ⟨hb10', ⟨hf, -⟩ | ⟨-, A10, c10, xs10, css10, rfl, P10⟩⟩
  · rw [k_rep] at hf; cases hf
  rw [k_same.1]
  try dsimp only
  have hw9 := hc5.lt
  have hb10 := below_then hb10' hb9
  replace ha1 := ha1.below hb10' (by omega)
  replace hb2 := hb2.below hb10' (by omega)
  replace hc5 := hc5.below hb10' (by omega)
  replace hL2 := hL2.below (hb10'.mono (by omega))
  clear P10 hrp hbc hb8 hb9 hb10' hb7
  go_upto_region 5 with (fail)
  have hac := ha1.st4
  have hbc := hb2.st4
  have hcc := hc5.st4
  have hbt := fun W => vl_better (w := W) (f1 := 0) (f2 := 1) (s1 := 0) (s2 := 0) (v1 := 3) (v2 := 2) (n1 := 0) (n2 := 1) (c1 := 0) (c2 := 1) (A1 := none) (A2 := some ⟨w.heap.size, 0, none⟩)
  rw [k_bet] at hbt
  replace hbt := Lib.hid hbt
  have hw10 := hb2.lt
  have hw10c := hc5.lt
  have hw10a := ha1.lt
  have hL10 := fun W (hW : Below w10.heap.size w10 W) => vl_same (w := W) (B := W.heap.size) ((hL2.below (hW.mono (by omega))).up (by have := hW.size; omega)) ((hL2.below (hW.mono (by omega))).up (by have := hW.size; omega)) (Nat.le_refl _) (by decide) (by decide)
  rw [k_same.2] at hL10
  replace hL10 := Lib.hid hL10
  have hfr := fun W => vl_fresh (w := W) (B := 0) (oc := 0) (os_ := 0) (on := 0) (oL := 0) (occ := 0) (og := ⟨#[]⟩) (om := ⟨#[]⟩) (oA := none) (l := []) (LogR.nil W 0) (Nat.zero_le _) (by decide)
  rw [k_fre] at hfr
  replace hfr := Lib.hid hfr
  go_wp2_with fail
  refine (hbt.out _).mono ?_
  rintro e w11 ⟨rfl, hb11⟩
  try dsimp only
  clear hac hbc hcc
  have hac := (ha1.below hb11 (by omega)).st4
  have hbc := (hb2.below hb11 (by omega)).st4
  have hcc := (hc5.below hb11 (by omega)).st4
  go_wp2_with fail
  refine (hL10.out _ hb11).mono ?_
  rintro e w12 ⟨rfl, hb12⟩
  try dsimp only
  go_wp2_with fail
  refine (hfr.out _).mono ?_
  rintro e w13 ⟨rfl, hb13⟩
  try dsimp only
  have hb14 := below_then hb13 (below_then hb12 (below_then hb11 hb10))
  go_wp2_with fail
  go_ret
  exact ⟨rfl, hb14⟩
end Go.Proofs.Ytfmmabkekjchjaa
