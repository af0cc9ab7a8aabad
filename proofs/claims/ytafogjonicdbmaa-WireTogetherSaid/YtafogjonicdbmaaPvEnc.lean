/- What is written is read back cleaned. -/
import Derived.Test.YtafogjonicdbmaaReadBoth
namespace Go.Proofs.Ytafogjonicdbmaa
open Go.RowKit

theorem readT_enc (s more : List UInt8) (h : s.length ≤ 256) : readT (putU s.length 2 ++ s ++ more) 256 = (s, 2 + s.length, 0) := by
  have hr : readU (putU s.length 2) = s.length := by rw [readU_put]; exact Nat.mod_eq_of_lt (by omega)
  unfold readT
  rw [List.append_assoc, take_putU, drop_putU, hr, if_pos ⟨by simp [putU_len], by omega, by simp [putU_len]; omega⟩, List.take_left]

theorem cb_cb (f : Nat) : cb (cb f) = cb f := by
  by_cases h : nanB f = true
  · have hc : cb f = 9221120237041090561 := by unfold cb; rw [if_pos h]
    rw [hc]
    decide +kernel
  · have hc : cb f = f := by unfold cb; rw [if_neg h]
    rw [hc, hc]

theorem wrap_u64_back (i : Int) (h0 : -9223372036854775808 ≤ i) (h1 : i ≤ 9223372036854775807) : wrap64 (u64 i : Nat) = i := by
  unfold wrap64 u64
  omega

mutual
theorem pv_enc : ∀ (v : Val) (d : Nat) (more : List UInt8), OkV v → strangeV v = false → greatV v (d : Int) = false → pv d (encV v ++ more) = some (cleanV v, sizeV v)
  | .mk k i f s l, d, more, hok, hst, hg => by
    obtain ⟨hf, hi, hkids⟩ : f < 18446744073709551616 ∧ (-9223372036854775808 ≤ i ∧ i ≤ 9223372036854775807) ∧ (∀ v, v ∈ l → OkV v) := by
      cases hok with
      | mk h1 h2 h3 => exact ⟨h1, h2, h3⟩
    have hst2 : (decide (k < 0 ∨ 4 < k) || (k == 4 && strangeL l)) = false := hst
    simp only [Bool.or_eq_false_iff, decide_eq_false_iff_not] at hst2
    obtain ⟨hk, hsl⟩ := hst2
    unfold greatV at hg
    unfold encV cleanV sizeV
    by_cases h1 : k = 1
    · rw [if_pos h1, if_pos h1, if_pos (.inl h1), List.cons_append, pv_cons]
      have hr : readU (putU (u64 i) 8) = u64 i := by rw [readU_put]; exact Nat.mod_eq_of_lt (by unfold u64; omega)
      rw [if_neg (by decide), if_pos (by decide), if_neg (by simp [putU_len]), take_putU, hr, wrap_u64_back i hi.1 hi.2]
    by_cases h2 : k = 2
    · rw [if_neg h1, if_pos h2, if_neg h1, if_pos h2, if_pos (.inr h2), List.cons_append, pv_cons]
      have hr : readU (putU (cb f) 8) = cb f := by rw [readU_put]; exact Nat.mod_eq_of_lt (cb_lt hf)
      rw [if_neg (by decide), if_neg (by decide), if_pos (by decide), if_neg (by simp [putU_len]), take_putU, hr, if_pos (cb_cb f)]
    by_cases h3 : k = 3
    · rw [if_pos h3] at hg
      have hs : ¬ 256 < s.length := by simpa using hg
      rw [if_neg h1, if_neg h2, if_pos h3, if_neg h1, if_neg h2, if_pos h3, if_neg (by omega), if_pos h3, List.cons_append, pv_cons]
      rw [if_neg (by decide), if_neg (by decide), if_neg (by decide), if_pos (by decide), readT_enc s more (by omega), if_pos rfl]
      show some (Val.mk 3 0 0 s [], 1 + (2 + s.length)) = some (Val.mk 3 0 0 s [], 3 + s.length)
      rw [show 1 + (2 + s.length) = 3 + s.length from by omega]
    by_cases h4 : k = 4
    · rw [if_neg h3, if_pos h4] at hg
      simp only [Bool.or_eq_false_iff, decide_eq_false_iff_not] at hg
      obtain ⟨⟨h64, hd⟩, hgl⟩ := hg
      obtain ⟨e, rfl⟩ : ∃ e, d = e + 1 := ⟨d - 1, by omega⟩
      have hgl' : greatL l (e : Int) = false := by rw [← hgl]; congr 1; omega
      have hsl2 : strangeL l = false := by
        rw [h4] at hsl
        simpa using hsl
      have hn : (UInt8.ofNat l.length).toNat = l.length := by rw [UInt8.toNat_ofNat']; omega
      rw [if_neg h1, if_neg h2, if_neg h3, if_pos h4, if_neg h1, if_neg h2, if_neg h3, if_pos h4, if_neg (by omega), if_neg h3, if_pos h4, List.cons_append, List.cons_append, pv_cons]
      rw [if_neg (by decide), if_neg (by decide), if_neg (by decide), if_neg (by decide), if_pos (by decide)]
      dsimp only
      rw [hn, if_neg (by omega), pl_enc l e more hkids hsl2 hgl']
    · rw [if_neg h1, if_neg h2, if_neg h3, if_neg h4, if_neg h1, if_neg h2, if_neg h3, if_neg h4, if_neg (by omega), if_neg h3, if_neg h4]
      show pv d (0 :: more) = _
      rw [pv_cons, if_pos (by decide)]
theorem pl_enc : ∀ (l : List Val) (d : Nat) (more : List UInt8), (∀ v, v ∈ l → OkV v) → strangeL l = false → greatL l (d : Int) = false → pl (pv d) l.length (encL l ++ more) = some (cleanL l, sizeL l)
  | [], d, more, _, _, _ => rfl
  | v :: l, d, more, hok, hst, hg => by
    have hst := Bool.or_eq_false_iff.1 (show (strangeV v || strangeL l) = false from hst)
    have hg := Bool.or_eq_false_iff.1 (show (greatV v (d : Int) || greatL l (d : Int)) = false from hg)
    have e1 := pv_enc v d (encL l ++ more) (hok v (by simp)) hst.1 hg.1
    have e2 := pl_enc l d more (fun x hx => hok x (by simp [hx])) hst.2 hg.2
    show pl (pv d) (l.length + 1) ((encV v ++ encL l) ++ more) = some (cleanV v :: cleanL l, sizeV v + sizeL l)
    rw [List.append_assoc, pl, e1]
    dsimp only
    rw [show (encV v ++ (encL l ++ more)).drop (sizeV v) = encL l ++ more from by rw [← encV_len v, List.drop_left], e2]
end

theorem checkV_zero {v : Val} (h : checkV v = 0) : strangeV v = false ∧ greatV v 8 = false ∧ sizeV v ≤ 4096 := by
  rcases checkV_cases v with ⟨_, e⟩ | ⟨_, _, e⟩ | ⟨_, _, _, e⟩ | ⟨h1, h2, h3, _⟩
  · omega
  · omega
  · omega
  · exact ⟨h1, h2, h3⟩
end Go.Proofs.Ytafogjonicdbmaa
