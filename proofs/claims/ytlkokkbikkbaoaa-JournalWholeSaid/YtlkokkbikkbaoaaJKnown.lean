/- choirlaw21.known is true; choirlaw21.ref. -/
import Derived.Test.YtlkokkbikkbaoaaRec
import Derived.Test.YtlkokkbikkbaoaaJPut
set_option linter.unusedSimpArgs false
set_option linter.unusedVariables false
set_option linter.unusedSimpArgs false
set_option linter.unusedVariables false
namespace Go.Proofs.Ytlkokkbikkbaoaa
open Go.RowKit
set_option maxRecDepth 100000

def kr1 : RecD := ⟨1, 3, 1, ⟨0, 0, 0, [], [], []⟩⟩
def kr2 : RecD := ⟨2, 3, 0, ⟨1, 1, 0, [103], [109], []⟩⟩
def kb1 : List UInt8 := [] ++ framed (bytesP kr1)
def kb2 : List UInt8 := kb1 ++ framed (bytesP kr2)
def kb3 : List UInt8 := kb2 ++ [1, 2, 3]
theorem kr1_err : errJ ⟨1, 3, 1, ⟨0, 0, 0, [], [], []⟩⟩ = 0 := by decide +kernel
theorem kr2_err : errJ ⟨2, 3, 0, ⟨1, 1, 0, [103], [109], []⟩⟩ = 0 := by decide +kernel
theorem kr9_err : errJ ⟨9, 0, 0, ⟨0, 0, 0, [], [], []⟩⟩ = 22 := by decide +kernel
theorem kb1_len : kb1.length = 21 := by decide +kernel
theorem kb2_len : kb2.length = 55 := by decide +kernel
theorem kb3_len : kb3.length = 58 := by decide +kernel
theorem kb3_rec : (recD kb3).2 = 55 ∧ (recD kb3).1.v = 3 ∧ (recD kb3).1.last = 3 ∧ (recD kb3).1.log.length = 1 ∧ (recD kb3).1.sure = 0 := by decide +kernel
theorem op_none (w : World) (B : Nat) {c s n : Nat} (g m : List UInt8) (hc : c < 4294967296) (hs : s < 4294967296) (hn : n < 65536) : OpReads w B ⟨c, s, n, g, m, []⟩ #[.int .u32 (c : Int), .int .u32 (s : Int), .int .u16 (n : Int), .string (bstr g), .string (bstr m), .slice none 0 0] :=
  ⟨none, 0, [], fun _ => #[], rfl, Reads.none_, by simp, by simp, by simp, by simp, hc, hs, hn⟩

set_option maxHeartbeats 6400000 in
theorem known_true (w : World) : Calls Try.prog 4 #[] w (Says w (.bool true)) := by
  obtain ⟨i0, hi, hz0, hz1, hz2⟩ := info_parts info_u8
  have hp1 := jput_walk (k := 1) (n := 1) (v := 3) (A0 := none) (c0 := 0) (bs := []) (op_none w 0 (c := 0) (s := 0) (n := 0) [] [] (by decide) (by decide) (by decide)) (Nat.zero_le _) (by decide) (by decide) (by decide) ⟨rfl, by simp⟩ (by simp)
  rw [kr1_err] at hp1
  rw [show ([] : List UInt8) ++ framed (bytesP ⟨1, 3, 1, ⟨0, 0, 0, [], [], []⟩⟩) = kb1 from rfl] at hp1
  replace hp1 := Lib.hid hp1
  go_enter Try.func4, Try.ntmps4
  go_wp2_with fail
  refine hp1.out.mono ?_
  clear hp1
  rintro e w1 ⟨hok, -⟩
  obtain ⟨A1, c1, rfl, ho1, hb1, hg1⟩ := hok rfl
  dsimp only
  clear hok
  have hp2 := jput_walk (k := 2) (n := 0) (v := 3) (A0 := A1) (c0 := c1) (bs := kb1) (op_none w1 0 (c := 1) (s := 1) (n := 0) [103] [109] (by decide) (by decide) (by decide)) (Nat.zero_le _) (by decide) (by decide) (by decide) ho1.reads_ (by rw [kb1_len]; decide)
  rw [kr2_err] at hp2
  rw [show kb1 ++ framed (bytesP ⟨2, 3, 0, ⟨1, 1, 0, [103], [109], []⟩⟩) = kb2 from rfl, kb1_len] at hp2
  rw [kb1_len]
  clear ho1
  go_wp2_with fail
  refine hp2.mono ?_
  clear hp2
  rintro e w2 ⟨hok, -⟩
  obtain ⟨A2, c2, rfl, ho2, hb2, hg2⟩ := hok rfl
  dsimp only
  clear hok
  have hb2' := below_then hb2 hb1
  have hsrc := Reads.lit (size := 1) w2 #[.int .u8 1, .int .u8 2, .int .u8 3] 5 (0, 0) 3 [.int .u8 1, .int .u8 2, .int .u8 3] rfl rfl
  have hb3 := hb2'.alloc hb2'.size (.cells #[.int .u8 1, .int .u8 2, .int .u8 3] 5)
  have ho3 := ho2.alloc (.cells #[.int .u8 1, .int .u8 2, .int .u8 3] 5)
  have hlt : ∀ g, bOf A2 = some g → w.heap.size ≤ g := fun g hg => by have := hg2 g hg; have := hb1.size; omega
  rw [kb2_len] at ho3 ⊢
  clear ho2 hg2 hg1 hb1 hb2
  go_wp2_with (at_builtin; go_must (refine wpList_append_mine rfl _ _ 26 26 rfl 5 i0 (.int .u8 0) 1 1 Try.underlying26 hi hz0 hz1 hz2 rfl rfl ho3 rfl (Src.ofReads Try.underlying26 _ hsrc (by intro u hu; simp at hu; rcases hu with rfl | rfl | rfl <;> rfl)) (by decide) (by decide) (fun A4 c4 w4 ho4 hg4 hat4 => ?_)))
  have hb4 := hb3.grown hg4 hb3.size (fun k hk => hlt k hk)
  have ho4' : Own w4 5 1 A4 kb3.length c4 (bys kb3) := by
    rw [kb3_len]
    exact ho4
  have hrc := rec_walk (c := c4) ho4'.reads_ (fun h => ho4'.none_cap h) ho4'.le_cap (by rw [kb3_len]; decide)
  rw [kb3_len] at hrc
  obtain ⟨r1, r2, r3, r4, r5⟩ := kb3_rec
  obtain ⟨⟨⟨sv, sl, log, su⟩, n⟩, hR⟩ : ∃ R, recD kb3 = R := ⟨_, rfl⟩
  rw [hR] at hrc r1 r2 r3 r4 r5
  dsimp only at r1 r2 r3 r4 r5
  subst r1 r2 r3 r5
  clear hR ho4 ho4' hg4 hat4 hb3 ho3 hsrc hlt hb2'
  go_wp2_with fail
  refine hrc.mono ?_
  clear hrc
  rintro e w5 ⟨L, c5, xs5, css5, rfl, -, hb5'⟩
  dsimp only
  rw [r4]
  have hb5 := below_then hb5' hb4
  have hst := (Blk.new w5 49 #[.int .u64 ((3 : Nat) : Int), .int .u64 ((3 : Nat) : Int), .slice L 1 c5, .int .i64 0])
  have hb6 := hb5.alloc hb5.size (.cells #[.int .u64 ((3 : Nat) : Int), .int .u64 ((3 : Nat) : Int), .slice L 1 c5, .int .i64 0] 49)
  have hp3 := fun W => jput_walk (w := W) (k := 9) (n := 0) (v := 0) (A0 := none) (c0 := 0) (bs := []) (op_none W 0 (c := 0) (s := 0) (n := 0) [] [] (by decide) (by decide) (by decide)) (Nat.zero_le _) (by decide) (by decide) (by decide) ⟨rfl, by simp⟩ (by simp)
  rw [kr9_err] at hp3
  replace hp3 := Lib.hid hp3
  clear hb5 hb5' hb4 r4
  go_wp2_with fail
  refine (hp3.out _).mono ?_
  clear hp3
  rintro e w7 ⟨-, hno⟩
  obtain ⟨rfl, hb7⟩ := hno (by decide)
  dsimp only
  have hc := (hst.below hb7 hst.lt).st4
  have hb8 := below_then hb7 hb6
  clear hst hno hb6 hb7
  go_wp2_with fail
  go_ret
  exact ⟨rfl, hb8⟩

end Go.Proofs.Ytlkokkbikkbaoaa
