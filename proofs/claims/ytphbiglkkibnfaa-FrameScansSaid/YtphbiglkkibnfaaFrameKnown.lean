/- The chapter's example: it answers true. -/
import Derived.Test.YtphbiglkkibnfaaOpenRef
import Derived.Lib.SlBytesConst
namespace Go.Proofs.Ytphbiglkkibnfaa
open Go.RowKit

def SaysTrue (w : World) (e : Ending) (w' : World) : Prop := e = .returned (.bool true) ∧ Below w.heap.size w w'

theorem take_putU {v k : Nat} (l : List UInt8) : (putU v k ++ l).take k = putU v k := by
  have := List.take_left (l₁ := putU v k) (l₂ := l)
  rwa [putU_len] at this
theorem drop_putU {v k : Nat} (l : List UInt8) : (putU v k ++ l).drop k = l := by
  have := List.drop_left (l₁ := putU v k) (l₂ := l)
  rwa [putU_len] at this
theorem opened_framed (p more : List UInt8) (hp : p.length ≤ 65536) : opened (framed p ++ more) = (p, 8 + p.length, 0) := by
  have h4 : (framed p ++ more).take 4 = putU p.length 4 := by simp only [framed, List.append_assoc]; exact take_putU _
  have hd4 : (framed p ++ more).drop 4 = putU (fsum p) 4 ++ (p ++ more) := by simp only [framed, List.append_assoc]; exact drop_putU _
  have hd8 : (framed p ++ more).drop 8 = p ++ more := by
    rw [show (8 : Nat) = 4 + 4 from rfl, ← List.drop_drop, hd4]; exact drop_putU _
  have hn : readU (putU p.length 4) = p.length := by rw [readU_put]; exact Nat.mod_eq_of_lt (by omega)
  have hs : readU (putU (fsum p) 4) = fsum p := by rw [readU_put]; exact Nat.mod_eq_of_lt (fsum_lt p)
  have hl : (framed p ++ more).length = 8 + p.length + more.length := by rw [List.length_append, framed_len]
  unfold opened
  rw [if_neg (by omega), h4, hn, if_neg (by omega), if_neg (by omega), hd8, hd4, take_putU, hs, List.take_left, if_pos rfl]

theorem crc_known : crc [49, 50, 51, 52, 53, 54, 55, 56, 57] = 3421780262 := by decide +kernel
theorem opened_ab9 : opened ((framed [97, 98]).take 9) = ([], 0, 23) := by decide +kernel

set_option maxHeartbeats 800000 in
theorem known_true (w : World) : Calls Try.prog 9 #[] w (SaysTrue w) := by
  have kc := fun (w : World) (C : Array Value) (n c : Nat) => Lib.run_convert_bytes_const (P := Try.prog) w 22 5 C n c Try.underlying22 Try.underlying5
  go_enter Try.func9, Try.ntmps9
  go_wp2_with fail
  refine (wrap_walk (bs := []) (p := [97, 98]) (r := framed [97, 98]) Reads.none_ ((Reads.lit w _ _ _ 2 (bys [97, 98]) rfl rfl).more (by simp)) (by decide) (by decide) rfl).mono ?_
  rintro e w1 ⟨A1, c1, rfl, ho1, hb1, hg1⟩
  dsimp only
  have hb1w : Below w.heap.size w w1 := (below_then hb1 ((Below.refl _ w).alloc (Nat.le_refl _) _))
  have h10 : (framed [97, 98]).length = 10 := rfl
  have ho9 := opened_ab9
  have hof := opened_framed [97, 98] [] (by decide)
  rw [List.append_nil] at hof
  generalize framed [97, 98] = fr at ho1 h10 ho9 hof ⊢
  rw [h10] at ho1 ⊢
  replace h10 := Lib.hid h10
  replace ho9 := Lib.hid ho9
  replace hof := Lib.hid hof
  have hc1 := ho1.le_cap
  go_wp2_with fail
  have hR := ho1.reads_
  rw [← h10.out] at hR
  rw [show (10 : Nat) = fr.length from h10.out.symm]
  refine (open_walk hR (by rw [h10.out]; exact hc1) (by rw [h10.out]; decide)).mono ?_
  rintro e w2 ⟨A2, c2, rfl, ho2, hb2, hg2⟩
  rw [hof.out] at ho2 ⊢
  dsimp only at ho2 ⊢
  rw [h10.out]
  have hb2w := below_then hb2 hb1w
  have ho12 := ho1.below hb2 (Nat.le_refl _)
  go_wp2_with fail
  obtain ⟨f9, hf9⟩ : ∃ f9, fr.take 9 = f9 := ⟨_, rfl⟩
  have hl9 : f9.length = 9 := by rw [← hf9, List.length_take, h10.out]; rfl
  have hR9 : Reads w2 w2.heap.size 1 A1 f9.length (bys f9) := by
    have := ho12.reads_.first (k := 9) (by decide)
    rw [Nat.mul_one, bys_take, hf9] at this
    rw [hl9]
    exact this
  have ho9' := ho9.out
  rw [hf9] at ho9'
  rw [show (9 : Nat) = f9.length from hl9.symm]
  refine (open_walk hR9 (by omega) (by omega)).mono ?_
  rintro e w3 ⟨A3, c3, rfl, ho3, hb3, hg3⟩
  rw [ho9'] at ho3 ⊢
  dsimp only at ho3 ⊢
  have hb3w := below_then hb3 hb2w
  have ho23 := ho2.below hb3 (Nat.le_refl _)
  clear hR9 hf9 ho9' ho9 hof h10 hR
  go_wp2_with fail
  refine (sum_contract _ _ [49, 50, 51, 52, 53, 54, 55, 56, 57] _ ((Reads.lit w3 _ _ _ 9 (bys [49, 50, 51, 52, 53, 54, 55, 56, 57]) rfl rfl).more (by simp)) (by decide)).mono ?_
  rintro e w4 ⟨rfl, hb4⟩
  dsimp only
  rw [crc_known]
  have hb4' := below_then hb4 ((Below.refl _ w3).alloc (Nat.le_refl _) _)
  have ho24 := ho23.below hb4' (Nat.le_refl _)
  have hb4w := below_then hb4' hb3w
  have hcv : (convert 22 9 (.slice A2 2 c2)).run Try.prog w4 = .ok (.string (bstr [97, 98])) w4 := conv_bytes (n := 2) (bs := [97, 98]) ho24.reads_
  go_wp2
  go_ret
  exact ⟨rfl, hb4w⟩
end Go.Proofs.Ytphbiglkkibnfaa
