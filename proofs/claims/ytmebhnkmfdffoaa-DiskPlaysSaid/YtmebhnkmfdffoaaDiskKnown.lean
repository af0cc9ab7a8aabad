/- The chapter's example: it answers true. -/
import Derived.Test.YtmebhnkmfdffoaaDisk
import Derived.Lib.SlBytesConst
namespace Go.Proofs.Ytmebhnkmfdffoaa
open Go.RowKit

def SaysTrue (w : World) (e : Ending) (w' : World) : Prop := e = .returned (.bool true) ∧ Below w.heap.size w w'

set_option maxHeartbeats 400000 in
theorem known_true (w : World) : Calls Try.prog 6 #[] w (SaysTrue w) := by
  have kc := fun (w : World) (C : Array Value) (n c : Nat) => Lib.run_convert_bytes_const (P := Try.prog) w 22 5 C n c Try.underlying22 Try.underlying5
  go_enter Try.func6, Try.ntmps6
  go_wp2_with fail
  refine (disk_new _).mono ?_
  rintro e w1 ⟨p, A1, c1, rfl, hd1, hb1, hp1, hA1⟩
  go_wp2_with fail
  refine (disk_append (hd1.alloc _) (b2 := [97, 98]) (Reads.lit w1 _ _ _ 2 _ rfl rfl) (by decide)).mono ?_
  rintro e w2 ⟨rfl, A2, c2, hd2, hu2, hA2⟩
  have hb2 : Below w.heap.size w w2 := hb1.trans (((Upd.refl _ _).alloc _ |>.trans hu2 (fun _ _ h => h)).below hb1.size (by
    rintro k hk (rfl | h)
    · omega
    · have := hA1 k h.symm; omega))
  have hA2' : ∀ g, bOf A2 = some g → w.heap.size ≤ g := fun g hg => by
    rcases hA2 with h | h
    · exact hA1 g (by rw [← h]; exact hg)
    · have h1 := h g hg; have h2 := hb1.size; simp at h1; omega
  clear hd1 hu2 hA2 hb1 hA1
  go_wp2_with fail
  refine (disk_sync hd2).mono ?_
  rintro e w3 ⟨rfl, hd3, hu3⟩
  have hb3 := hb2.trans (hu3.below hb2.size (by rintro k hk rfl; omega))
  clear hd2 hu3 hb2
  go_wp2_with fail
  refine (disk_append (hd3.alloc _) (b2 := [99]) (Reads.lit w3 _ _ _ 1 _ rfl rfl) (by decide)).mono ?_
  rintro e w4 ⟨rfl, A4, c4, hd4, hu4, hA4⟩
  have hb4 : Below w.heap.size w w4 := hb3.trans (((Upd.refl _ _).alloc _ |>.trans hu4 (fun _ _ h => h)).below hb3.size (by
    rintro k hk (rfl | h)
    · omega
    · have := hA2' k h.symm; omega))
  clear hd3 hu4 hb3
  go_wp2_with fail
  refine (disk_crash 0 hd4 (by decide) (by decide)).mono ?_
  rintro e w5 ⟨rfl, c5, hd5, hu5⟩
  replace hd5 : DiskAt w5 p A4 c5 [97, 98] 2 := hd5
  have hb5 := hb4.trans (hu5.below hb4.size (by rintro k hk rfl; omega))
  clear hd4 hu5 hb4
  go_wp2_with fail
  refine (disk_bytes hd5 (by decide)).mono ?_
  rintro e w6 ⟨A6, c6, rfl, ho6, hb6, hg6⟩
  have hr6 : Reads w6 _ 1 A6 2 (bys [97, 98]) := ho6.reads_
  have hcv := run_bytes_str (P := Try.prog) 22 5 Try.underlying22 Try.underlying5 9 Try.underlying9 c6 hr6
  have hd6 := hd5.below hb6 (Nat.le_refl _)
  have hb7 := hb5.trans (hb6.mono hb5.size)
  clear hd5 hb5 hb6
  go_wp2_with fail
  refine (disk_sure hd6).mono ?_
  rintro e w7 ⟨rfl, rfl⟩
  go_wp2
  go_ret
  exact ⟨rfl, hb7⟩
end Go.Proofs.Ytmebhnkmfdffoaa
