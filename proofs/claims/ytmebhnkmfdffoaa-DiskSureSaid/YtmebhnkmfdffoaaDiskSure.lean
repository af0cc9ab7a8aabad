/- DiskSure's walk. -/
import Derived.Test.YtmebhnkmfdffoaaDiskKnown
namespace Go.Proofs.Ytmebhnkmfdffoaa
open Go.RowKit

set_option maxHeartbeats 800000 in
theorem sure_walk (A B : Option Addr) (ca cb : Nat) (xs ys : List UInt8) (cut : Int) (w : World) (ha : Reads w w.heap.size 1 A xs.length (bys xs)) (hb : Reads w w.heap.size 1 B ys.length (bys ys)) (hcb : ys.length ≤ cb) :
    Calls Try.prog 3 #[.slice A xs.length ca, .slice B ys.length cb, .int .i64 cut] w (SaysTrue w) := by
  by_cases h1 : 200 < xs.length
  · go_enter Try.func3, Try.ntmps3
    go_wp2_with fail
    refine (known_true _).mono ?_
    rintro e w1 ⟨rfl, hb1⟩
    go_wp2_with fail
    go_ret
    exact ⟨rfl, hb1⟩
  by_cases h2 : 200 < ys.length
  · go_enter Try.func3, Try.ntmps3
    go_wp2_with fail
    refine (known_true _).mono ?_
    rintro e w1 ⟨rfl, hb1⟩
    go_wp2_with fail
    go_ret
    exact ⟨rfl, hb1⟩
  obtain ⟨m, hm, hm0, hif⟩ := cutAt_if cut ys.length
  have hk := cutAt_le cut ys.length
  go_enter Try.func3, Try.ntmps3
  go_wp2_with fail
  refine (known_true _).mono ?_
  rintro e w1 ⟨rfl, hb1⟩
  have ha1 := ha.below hb1
  have hb1' := hb.below hb1
  go_wp2_with fail
  refine (disk_new _).mono ?_
  rintro e w2 ⟨p, A2, c2, rfl, hd2, hb2, hp2, hA2⟩
  have hu2 : Below w.heap.size w w2 := hb1.trans (hb2.mono hb1.size)
  have ha2 := ha.below hu2
  have hp : w.heap.size ≤ p := Nat.le_trans hb1.size hp2
  have hA : ∀ g, bOf A2 = some g → w.heap.size ≤ g := fun g hg => Nat.le_trans hb1.size (hA2 g hg)
  clear ha1 hb1' hb2 hp2 hA2 hb1
  go_wp2_with fail
  refine (disk_append hd2 ha2 (by simp; omega)).mono ?_
  rintro e w3 ⟨rfl, A3, c3, hd3, hu3, hA3⟩
  have hu3' : Below w.heap.size w w3 := hu2.trans (hu3.below hu2.size (by
    rintro k hk (rfl | h)
    · omega
    · have := hA k h.symm; omega))
  have hA3' : ∀ g, bOf A3 = some g → w.heap.size ≤ g := fun g hg => by
    rcases hA3 with h | h
    · exact hA g (by rw [← h]; exact hg)
    · exact Nat.le_trans hu2.size (h g hg)
  clear hd2 ha2 hu2 hu3 hA3 hA
  go_wp2_with fail
  refine (disk_sync hd3).mono ?_
  rintro e w4 ⟨rfl, hd4, hu4⟩
  have hu4' := hu3'.trans (hu4.below hu3'.size (by rintro k hk rfl; omega))
  have hb4 := hb.below hu4'
  clear hd3 hu4 hu3'
  go_wp2_with fail
  refine (disk_append hd4 hb4 (by simp; omega)).mono ?_
  rintro e w5 ⟨rfl, A5, c5, hd5, hu5, hA5⟩
  have hu5' : Below w.heap.size w w5 := hu4'.trans (hu5.below hu4'.size (by
    rintro k hk (rfl | h)
    · omega
    · have := hA3' k h.symm; omega))
  simp only [List.nil_append] at hd5
  clear hd4 hb4 hu4' hu5 hA5 hA3'
  go_wp2_with fail
  refine (disk_sure hd5).mono ?_
  rintro e w6 ⟨rfl, rfl⟩
  go_wp2_with fail
  refine (disk_crash cut hd5 (by simp; omega) (by simp)).mono ?_
  rintro e w7 ⟨rfl, c7, hd7, hu7⟩
  have hu7' := hu5'.trans (hu7.below hu5'.size (by rintro k hk rfl; omega))
  replace hd7 : DiskAt w7 p A5 c7 (xs ++ ys.take (cutAt cut ys.length)) (xs.length + cutAt cut ys.length) := by
    have e1 : (xs ++ ys).length - xs.length = ys.length := by simp
    have e2 : (xs ++ ys).take (xs.length + cutAt cut ys.length) = xs ++ ys.take (cutAt cut ys.length) := by
      rw [List.take_length_add_append]
    rw [e1, e2] at hd7
    rw [show (xs ++ ys.take (cutAt cut ys.length)).length = xs.length + cutAt cut ys.length from by simp; omega] at hd7
    exact hd7
  clear hd5 hu7 hu5'
  have ra := ha.below hu7'
  have rb := (hb.below hu7').first hk
  simp only [Nat.mul_one, bys_take] at rb
  have ka : ∀ W, Below w7.heap.size w7 W → (convert 22 9 (.slice A xs.length ca)).run Try.prog W = .ok (.string (bstr xs)) W :=
    fun W h => run_bytes_str (P := Try.prog) 22 5 Try.underlying22 Try.underlying5 9 Try.underlying9 ca (ra.below (h.mono hu7'.size))
  have kb : ∀ W, Below w7.heap.size w7 W → (convert 22 9 (.slice B (cutAt cut ys.length) cb)).run Try.prog W = .ok (.string (bstr (ys.take (cutAt cut ys.length)))) W :=
    fun W h => run_bytes_str (P := Try.prog) 22 5 Try.underlying22 Try.underlying5 9 Try.underlying9 cb (rb.below (h.mono hu7'.size))
  have hw : IntKind.i64.wrap ((xs.length : Int) + (cutAt cut ys.length : Int)) = ((xs.length + cutAt cut ys.length : Nat) : Int) := by rw [IntWalk.i64_in _ (by omega)]; omega
  have hkc : cutAt cut ys.length ≤ cb := by omega
  have hl7 : (xs ++ ys.take (cutAt cut ys.length)).length ≤ 1000000 := by simp; omega
  have hadd : ∀ W, (Op.stringOp .add (bstr xs) (bstr (ys.take (cutAt cut ys.length)))).run Try.prog W = .ok (.string (bstr (xs ++ ys.take (cutAt cut ys.length)))) W := fun W => by
    rw [run_string_add_sum _ _ _ (by rw [bstr_size, bstr_size]; simp; omega), bstr_append]
  generalize cutAt cut ys.length = k at *
  obtain ⟨zs, hz⟩ : ∃ zs, zs = xs ++ List.take k ys := ⟨_, rfl⟩
  have hq : (zs == (xs ++ List.take k ys)) = true := by simp [hz]
  rw [← hz] at hd7 hl7
  have HZ := Lib.hid hz; clear hz
  clear ha hb ra rb
  go_wp2_with fail
  clear hm hif
  go_region_held (fun W => Below w7.heap.size w7 W) (first | assumption | exact (Below.refl _ _).drew)
    (first | (go_at_call 12; refine (disk_bytes (hd7.below (by assumption) (Nat.le_refl _)) hl7).mono ?_; rintro e W1 ⟨A8, c8, rfl, ho8, hb8, hg8⟩; have hn : Below w7.heap.size w7 W1 := below_then hb8 (by assumption); have kc := run_bytes_str (P := Try.prog) 22 5 Try.underlying22 Try.underlying5 9 Try.underlying9 c8 ho8.reads_) | (go_at_call 10; refine (disk_sure (hd7.below (by assumption) (Nat.le_refl _))).mono ?_; rintro e W2 ⟨rfl, rfl⟩))
  go_wp2_with fail
  go_ret
  exact ⟨rfl, hu7'.trans ((by assumption : Below w7.heap.size w7 _).mono hu7'.size)⟩
end Go.Proofs.Ytmebhnkmfdffoaa
