/- A frame with one byte turned, behind its length, has another sum. -/
import Derived.Test.YtphbiglkkibnfaaFrameSums
namespace Go.Proofs.Ytphbiglkkibnfaa
open Go.RowKit

theorem readU_inj {a b : List UInt8} (hl : a.length = b.length) (h : readU a = readU b) : a = b := by
  rw [← putU_readU a, ← putU_readU b, h, hl]
theorem set_ne_self (l : List UInt8) (i : Nat) (hi : i < l.length) (b : UInt8) (hb : b ≠ l[i]) : l.set i b ≠ l := by
  intro h
  have := congrArg (fun m => m[i]?) h
  simp [hi] at this
  exact hb this
theorem opened_turned (p : List UInt8) (hp : p.length ≤ 65536) (i : Nat) (h4 : 4 ≤ i) (hi : i < (framed p).length) (b : UInt8) (hb : b ≠ (framed p)[i]) : opened ((framed p).set i b) = ([], 0, 21) := by
  have hfl := framed_len p
  have hq : (putU p.length 4).length = 4 := putU_len _ _
  have hs : (putU (fsum p) 4).length = 4 := putU_len _ _
  have hn : readU (putU p.length 4) = p.length := by rw [readU_put]; exact Nat.mod_eq_of_lt (by omega)
  have hss : readU (putU (fsum p) 4) = fsum p := by rw [readU_put]; exact Nat.mod_eq_of_lt (fsum_lt p)
  have hne : (putU (fsum p) 4 ++ p).set (i - 4) b ≠ putU (fsum p) 4 ++ p := by
    refine set_ne_self _ _ (by simp [hs]; omega) b ?_
    intro h
    apply hb
    rw [h]
    have e1 : (framed p)[i]? = (putU (fsum p) 4 ++ p)[i - 4]? := by
      have e2 : framed p = putU p.length 4 ++ (putU (fsum p) 4 ++ p) := by simp only [framed, List.append_assoc]
      rw [e2, List.getElem?_append_right (by rw [hq]; exact h4), hq]
    rw [List.getElem?_eq_getElem hi, List.getElem?_eq_getElem (by rw [List.length_append, hs]; omega)] at e1
    exact (Option.some.inj e1).symm
  have hset : (framed p).set i b = putU p.length 4 ++ (putU (fsum p) 4 ++ p).set (i - 4) b := by
    simp only [framed, List.append_assoc]
    rw [List.set_append_right _ _ (by rw [hq]; exact h4), hq]
  obtain ⟨r, hr⟩ : ∃ r, (putU (fsum p) 4 ++ p).set (i - 4) b = r := ⟨_, rfl⟩
  have hrl : r.length = 4 + p.length := by rw [← hr]; simp [hs]
  rw [hr] at hset hne
  have t4 : (putU p.length 4 ++ r).take 4 = putU p.length 4 := take_putU _
  have d4 : (putU p.length 4 ++ r).drop 4 = r := drop_putU _
  have d8 : (putU p.length 4 ++ r).drop 8 = r.drop 4 := by
    rw [show (8 : Nat) = 4 + 4 from rfl, ← List.drop_drop, d4]
  have hl : (putU p.length 4 ++ r).length = 8 + p.length := by rw [List.length_append, hq, hrl]; omega
  have hpl : (r.drop 4).take p.length = r.drop 4 := List.take_of_length_le (by simp [hrl])
  rw [hset]
  unfold opened
  rw [if_neg (by omega), t4, hn, if_neg (by omega), if_neg (by omega), d8, d4, hpl, if_neg]
  intro heq
  by_cases h8 : i < 8
  · -- the sum is turned
    have hr' : r = (putU (fsum p) 4).set (i - 4) b ++ p := by rw [← hr, List.set_append_left _ _ (by omega)]
    have hd : r.drop 4 = p := by rw [hr']; exact List.drop_left' (by simp [hs])
    have ht : r.take 4 = (putU (fsum p) 4).set (i - 4) b := by rw [hr']; exact List.take_left' (by simp [hs])
    rw [hd] at heq
    have := readU_inj (a := putU (fsum p) 4) (b := r.take 4) (by rw [hs, List.length_take, hrl]; omega) (by rw [hss, heq])
    apply hne
    rw [hr', ← ht, ← this]
  · -- the payload is turned
    have hr' : r = putU (fsum p) 4 ++ p.set (i - 8) b := by
      rw [← hr, List.set_append_right _ _ (by omega), hs, show i - 4 - 4 = i - 8 from by omega]
    have hd : r.drop 4 = p.set (i - 8) b := by rw [hr']; exact drop_putU _
    have ht : r.take 4 = putU (fsum p) 4 := by rw [hr']; exact take_putU _
    rw [hd, ht, hss] at heq
    have hi8 : i - 8 < p.length := by omega
    have hb8 : b ≠ p[i - 8] := by
      intro h
      apply hne
      rw [hr', h]
      simp
    have := crc_set (putU p.length 4 ++ p) (4 + (i - 8)) (by simp [hq]; omega) b (by
      rw [List.getElem_append_right (by omega)]
      simpa [hq] using hb8)
    apply this
    rw [List.set_append_right _ _ (by omega), hq, show 4 + (i - 8) - 4 = i - 8 from by omega]
    unfold fsum at heq
    rw [List.length_set] at heq
    exact heq
end Go.Proofs.Ytphbiglkkibnfaa
