/- The chapter's example: it answers true. -/
import Derived.Test.YtafogjonicdbmaaReadText
import Derived.Test.YtafogjonicdbmaaMore
import Derived.Lib.SlBytesConst
namespace Go.Proofs.Ytafogjonicdbmaa
open Go.RowKit

def SaysTrue (w : World) (e : Ending) (w' : World) : Prop := e = .returned (.bool true) ∧ Below w.heap.size w w'

theorem int_ref (n : Int) (w : World) : Calls Try.prog 27 #[.int .i64 n] w (Says w (.agg #[.int .i64 1, .int .i64 n, .float .f64 0, .string ⟨#[]⟩, .slice none 0 0])) := by
  have hsf := fun a k x m w => run_store_float (P := Try.prog) a k x m w
  go_enter Try.func27, Try.ntmps27
  go_wp2_with fail
  have hb := Blk.new w 26 #[.int .i64 1, .int .i64 n, .float .f64 0, .string ⟨#[]⟩, .slice none 0 0]
  refine bodyPost_ret ?hr rfl ⟨rfl, (Below.refl _ w).alloc (Nat.le_refl _) _⟩
  case hr => exact results_cell_row rfl _ _ w.heap.size 26 _ (0, 0) _ rfl hb Try.underlying26 rfl (by kernel_rfl)

theorem known_put : [] ++ (1 :: putU (u64 1) 8) = [1, 0, 0, 0, 0, 0, 0, 0, 1] := by decide +kernel

set_option maxHeartbeats 1600000 in
theorem known_true (w : World) : Calls Try.prog 9 #[] w (SaysTrue w) := by
  go_enter Try.func9, Try.ntmps9
  go_wp2_with fail
  refine (int_ref 1 w).mono ?_
  rintro e w1 ⟨rfl, hb1⟩
  dsimp only
  go_wp2_with fail
  refine (wire_put_int (bs := []) (B := 0) (r := [1, 0, 0, 0, 0, 0, 0, 0, 1]) rfl (by decide) ⟨rfl, by simp⟩ (by omega) (by simp) known_put).mono ?_
  rintro e w2 ⟨A2, c2, rfl, ho2, hb2', hg2⟩
  dsimp only
  have hb2 := below_then hb2' hb1
  have hcl := ho2.le_cap
  go_wp2_with fail
  obtain ⟨g, cur, rfl, -, -, -⟩ := ho2.open_ (by decide)
  have hval := fun w1 (hb : Below w2.heap.size w2 w1) (hr : RdAt w1 (w2.heap.size + 1 + 1 + 1) (some ⟨g, 0, none⟩) 9 c2 0 8) =>
    value_int (b := [1, 0, 0, 0, 0, 0, 0, 0, 1]) (B := w2.heap.size) (at_ := 0) hr (ho2.reads_.below hb) (by omega) hcl (by decide) (by decide) (by decide) 1 (by decide)
  have hrd := read_ok hval (fun w1 _ => val_check_num 1 _ _ _ _ _ _ w1 (.inl rfl) (by decide))
  clear hval
  refine hrd.mono ?_
  clear hrd
  rintro e w3 ⟨rfl, hb3'⟩
  dsimp only
  have hb3 := below_then hb3' hb2
  have ho3 := ho2.below hb3' (Nat.le_refl _)
  have hsf := fun a k x m w => run_store_float (P := Try.prog) a k x m w
  rw [show wrap64 ((1 : Nat) : Int) = 1 from by simp [wrap64]]
  have hv4 := Blk.new w3 26 #[.int .i64 1, .int .i64 1, .float .f64 0, .string ⟨#[]⟩, .slice none 0 0]
  have ho4 := ho3.alloc (.cells #[.int .i64 1, .int .i64 1, .float .f64 0, .string ⟨#[]⟩, .slice none 0 0] 26)
  have hb4 := hb3.alloc hb3.size (.cells #[.int .i64 1, .int .i64 1, .float .f64 0, .string ⟨#[]⟩, .slice none 0 0] 26)
  have he4 : (w3.alloc (.cells #[.int .i64 1, .int .i64 1, .float .f64 0, .string ⟨#[]⟩, .slice none 0 0] 26)).heap.size = w3.heap.size + 1 := by simp
  go_wp2_with fail
  generalize w3.alloc (.cells #[.int .i64 1, .int .i64 1, .float .f64 0, .string ⟨#[]⟩, .slice none 0 0] 26) = w4 at *
  obtain ⟨y, hy⟩ : ∃ y, w3.heap.size = y := ⟨_, rfl⟩
  rw [hy] at hv4 he4 ⊢
  have hl9 := Reads.lit (size := 1) w4 #[.int .u8 9] 5 (0, 0) 1 (bys [9]) rfl rfl
  rw [he4] at hl9
  have hv5 := hv4.alloc (.cells #[.int .u8 9] 5)
  have ho5 := ho4.alloc (.cells #[.int .u8 9] 5)
  have hb5 := hb4.alloc hb4.size (.cells #[.int .u8 9] 5)
  have he5 : (w4.alloc (.cells #[.int .u8 9] 5)).heap.size = y + 1 + 1 := by simp [he4]
  clear hv4 ho4 hb4 ho3 hb3' hb3 hb2 hb2' ho2
  generalize w4.alloc (.cells #[.int .u8 9] 5) = w5 at *
  have hrs := read_short (A := some ⟨y + 1, 0, none⟩) (n := 1) (c := 1) (w := w5) (fun w1 hb hr =>
    value_bad (b := [9]) (B := w5.heap.size) (at_ := 0) hr ((hl9.more (by omega)).below hb) (by omega) (by decide) (by decide) (by decide) 9 (by decide) (by decide) (by decide))
  refine hrs.mono ?_
  clear hrs hl9
  rintro e w6 ⟨rfl, hb6'⟩
  dsimp only
  have hb6 := below_then hb6' hb5
  have ho6 := ho5.below hb6' (Nat.le_refl _)
  have hv6 := hv5.below hb6' hv5.lt
  clear hb5 ho5 hv5 he5 he4 hy
  have ho7 := ho6.alloc (.cells #[.int .i64 0, .int .i64 0, .float .f64 0, .string ⟨#[]⟩, .slice none 0 0] 26)
  have hv7 := hv6.alloc (.cells #[.int .i64 0, .int .i64 0, .float .f64 0, .string ⟨#[]⟩, .slice none 0 0] 26)
  have hb7 := hb6.alloc hb6.size (.cells #[.int .i64 0, .int .i64 0, .float .f64 0, .string ⟨#[]⟩, .slice none 0 0] 26)
  have he7 : (w6.alloc (.cells #[.int .i64 0, .int .i64 0, .float .f64 0, .string ⟨#[]⟩, .slice none 0 0] 26)).heap.size = w6.heap.size + 1 := by simp
  go_wp2_with fail
  generalize w6.alloc (.cells #[.int .i64 0, .int .i64 0, .float .f64 0, .string ⟨#[]⟩, .slice none 0 0] 26) = w7 at *
  have hl2 := Reads.lit (size := 1) w7 #[.int .u8 1, .int .u8 2] 5 (0, 0) 2 (bys [1, 2]) rfl rfl
  rw [he7] at hl2
  have ho8 := ho7.alloc (.cells #[.int .u8 1, .int .u8 2] 5)
  have hv8 := hv7.alloc (.cells #[.int .u8 1, .int .u8 2] 5)
  have hb8 := hb7.alloc hb7.size (.cells #[.int .u8 1, .int .u8 2] 5)
  have he8 : (w7.alloc (.cells #[.int .u8 1, .int .u8 2] 5)).heap.size = w6.heap.size + 1 + 1 := by simp [he7]
  clear ho7 hv7 hb7
  generalize w7.alloc (.cells #[.int .u8 1, .int .u8 2] 5) = w8 at *
  refine (wire_read (bs := [1, 2]) (k := 2) (hl2.more (by omega)) (by decide) (by decide) (by decide) (by decide)).mono ?_
  rintro e w9 ⟨rfl, hb9'⟩
  dsimp only
  rw [show readU ([1, 2].take 2) = 258 from by decide]
  have hb9 := below_then hb9' hb8
  have ho9 := ho8.below hb9' (Nat.le_refl _)
  have hv9 := hv8.below hb9' hv8.lt
  clear ho8 hv8 hb8 hb9' hl2 he8 he7 hv6 ho6 hb6 hb6'
  go_wp2_with fail
  refine (put_text (bs := []) (s := [97, 98]) (B := 0) (r := [0, 2, 97, 98]) ⟨rfl, by simp⟩ (by omega) (by decide) (by decide) (by decide) (by decide)).mono ?_
  rintro e w10 ⟨A10, c10, rfl, ho10, hb10', hg10⟩
  dsimp only
  have hb10 := below_then hb10' hb9
  have hv10 := hv9.below hb10' hv9.lt
  have k1 : (convert 22 9 (.slice (some ⟨g, 0, none⟩) 9 c2)).run Try.prog w10 = .ok (.string ⟨#[1, 0, 0, 0, 0, 0, 0, 0, 1]⟩) w10 := conv_bytes (n := 9) (c := c2) (ho9.below hb10' (Nat.le_refl _)).reads_
  have k2 : (convert 22 9 (.slice A10 4 c10)).run Try.prog w10 = .ok (.string ⟨#[0, 2, 97, 98]⟩) w10 := conv_bytes (n := 4) (c := c10) ho10.reads_
  have hi10 := hv10.cell 1
  clear ho9 ho10 hb10' hb9 hv9 hv10
  go_wp2_with fail
  go_ret
  exact ⟨rfl, hb10⟩
end Go.Proofs.Ytafogjonicdbmaa
