/- IdBack: the plain law: which texts are an id's. -/
import Derived.Test.YtokcmnenfgbdoaaDoorIb6
set_option linter.unusedSimpArgs false
set_option linter.unusedVariables false
namespace Go.Proofs.YtokcmnenfgbdoaaDoor
open Go.RowKit Go.Sort Go.Lib

/-- The document's id of a text. -/
def idP3 (c q : Nat) (t : List UInt8) : Option (Nat × Nat × Nat) :=
  match numD 65535 (t.drop 1) with
  | none => none
  | some (n, u) => if u = [] ∧ n ≠ 0 then some (c, q, n) else none
def idP2 (c : Nat) (s : List UInt8) : Option (Nat × Nat × Nat) :=
  match numD 4294967295 (s.drop 1) with
  | none => none
  | some (q, t) => if t = [] then some (c, q, 0) else if t.head? = some 46 then idP3 c q t else none
def idP (l : List UInt8) : Option (Nat × Nat × Nat) :=
  match numD 4294967295 l with
  | none => none
  | some (c, s) => if s.head? = some 45 then idP2 c s else none
theorem noDig_cons {c : UInt8} (r : List UInt8) (h : ¬ (48 ≤ c.toNat ∧ c.toNat ≤ 57)) : NoDig (c :: r) := fun x hx => by
  simp at hx
  subst hx
  exact h
theorem noDig_nil : NoDig [] := fun x hx => by cases hx
theorem textL_eq (c q n : Nat) : textL c q n = Lib.decDigits c ++ (45 :: (Lib.decDigits q ++ (if n = 0 then [] else 46 :: Lib.decDigits n))) := by
  unfold textL
  simp
theorem idP_text {c q n : Nat} (hc : c ≤ 4294967295) (hq : q ≤ 4294967295) (hn : n ≤ 65535) : idP (textL c q n) = some (c, q, n) := by
  rw [textL_eq]
  unfold idP
  rw [numD_dec hc (noDig_cons _ (by decide))]
  show (if _ then _ else _) = _
  rw [List.head?_cons, if_pos rfl]
  unfold idP2
  rw [List.drop_one, List.tail_cons]
  by_cases h0 : n = 0
  · subst h0
    rw [if_pos rfl, numD_dec hq noDig_nil]
    rfl
  · rw [if_neg h0, numD_dec hq (noDig_cons _ (by decide))]
    show (if _ then _ else _) = _
    rw [if_neg (by simp), List.head?_cons, if_pos rfl]
    unfold idP3
    have := numD_dec (most := 65535) hn noDig_nil
    rw [List.append_nil] at this
    rw [List.drop_one, List.tail_cons, this]
    show (if _ then _ else _) = _
    rw [if_pos ⟨rfl, h0⟩]
theorem head_cons {l : List UInt8} {c : UInt8} (h : l.head? = some c) : l = c :: l.drop 1 := by
  cases l with
  | nil => cases h
  | cons a b => simp at h; subst h; rfl
theorem idP_some {l : List UInt8} {c q n : Nat} (h : idP l = some (c, q, n)) : textL c q n = l ∧ c ≤ 4294967295 ∧ q ≤ 4294967295 ∧ n ≤ 65535 := by
  rw [textL_eq]
  unfold idP at h
  split at h
  · cases h
  · rename_i c' s e1
    obtain ⟨rfl, hc, -⟩ := numD_some e1
    split at h
    · rename_i hs
      have hs' := head_cons hs
      unfold idP2 at h
      split at h
      · cases h
      · rename_i q' t e2
        obtain ⟨e2', hq, -⟩ := numD_some e2
        split at h
        · rename_i ht
          subst ht
          cases h
          exact ⟨by rw [hs', e2']; simp, hc, hq, by omega⟩
        · split at h
          · rename_i ht
            have ht' := head_cons ht
            unfold idP3 at h
            split at h
            · cases h
            · rename_i n' u e3
              obtain ⟨e3', hn, -⟩ := numD_some e3
              split at h
              · rename_i hu
                cases h
                obtain ⟨hu1, hu2⟩ := hu
                subst hu1
                exact ⟨by rw [hs', e2', ht', e3', if_neg hu2]; simp, hc, hq, hn⟩
              · cases h
          · cases h
    · cases h
/-! The program's reading of an id's text. -/
theorem dec_digits (u : Nat) : ∀ x ∈ Lib.decDigits u, 48 ≤ x.toNat ∧ x.toNat ≤ 57 := by
  induction u using Nat.strongRecOn with
  | ind u ih =>
    intro x hx
    by_cases h : u < 10
    · rw [Lib.decDigits_one h] at hx
      simp only [List.mem_singleton] at hx
      subst hx
      have := dig_nat u h
      omega
    · rw [decDigits_step h, List.mem_append] at hx
      rcases hx with hx | hx
      · exact ih (u / 10) (by omega) x hx
      · simp only [List.mem_singleton] at hx
        subst hx
        have := dig_nat (u % 10) (by omega)
        omega
theorem parseM_dec (M : Nat) (hM : M ≤ 4294967295) (u : Nat) : u ≤ M → ∀ r, Lib.parseUintM M 0 (Lib.decDigits u ++ r) = Lib.parseUintM M u r := by
  induction u using Nat.strongRecOn with
  | ind u ih =>
    intro hu r
    by_cases h : u < 10
    · rw [Lib.decDigits_one h]
      have e := dig_nat u h
      show Lib.parseUintM M 0 (UInt8.ofNat (48 + u) :: r) = _
      rw [Lib.parseUintM, if_pos (by omega), if_neg (by omega), if_neg (by omega), e]
      congr 1
      omega
    · rw [decDigits_step h, List.append_assoc, ih (u / 10) (by omega) (by omega)]
      have e := dig_nat (u % 10) (by omega)
      show Lib.parseUintM M _ (UInt8.ofNat (48 + u % 10) :: r) = _
      rw [Lib.parseUintM, if_pos (by omega), if_neg (by omega), if_neg (by omega), e]
      congr 1
      omega
theorem parseB_dec {B u : Nat} (hB : 2 ^ B - 1 ≤ 4294967295) (hu : u ≤ 2 ^ B - 1) : Lib.parseUintB B (Lib.decDigits u) = .ok u := by
  unfold Lib.parseUintB
  rw [if_neg (fun e => by have := dec_pos u; rw [e] at this; simp at this)]
  have := parseM_dec (2 ^ B - 1) hB u hu []
  rw [List.append_nil] at this
  rw [this]
  rfl
theorem index_sep (c : UInt8) (r : List UInt8) : ∀ l : List UInt8, (∀ x ∈ l, x ≠ c) → Lib.index (l ++ c :: r) [c] = (l.length : Int)
  | [], _ => by simp [Lib.index]
  | b :: l, h => by
    have hb : (c == b) = false := by rw [beq_eq_false_iff_ne]; exact fun e => h b (by simp) e.symm
    have ih := index_sep c r l (fun x hx => h x (by simp [hx]))
    show Lib.index (b :: (l ++ c :: r)) [c] = _
    rw [Lib.index, ih]
    have h1 : (((l.length : Nat) : Int) == -1) = false := by rw [beq_eq_false_iff_ne]; omega
    have hb2 : ¬ c = b := fun e => h b (by simp) e.symm
    simp [hb2, h1]
theorem index_no (c : UInt8) : ∀ l : List UInt8, (∀ x ∈ l, x ≠ c) → Lib.index l [c] = -1
  | [], _ => by simp [Lib.index]
  | b :: l, h => by
    have hb : (c == b) = false := by rw [beq_eq_false_iff_ne]; exact fun e => h b (by simp) e.symm
    have ih := index_no c l (fun x hx => h x (by simp [hx]))
    rw [Lib.index, ih]
    have hb2 : ¬ c = b := fun e => h b (by simp) e.symm
    simp [hb2]
theorem cut_sep (c : UInt8) (l r : List UInt8) (h : ∀ x ∈ l, x ≠ c) : Lib.cut (l ++ c :: r) [c] = (l, r, true) := by
  unfold Lib.cut
  rw [index_sep c r l h, if_pos (by omega)]
  have e : ((l.length : Nat) : Int).toNat = l.length := by omega
  rw [e, List.take_left]
  congr 2
  rw [← List.drop_drop, List.drop_left]
  rfl
theorem cut_no (c : UInt8) (l : List UInt8) (h : ∀ x ∈ l, x ≠ c) : Lib.cut l [c] = (l, [], false) := by
  unfold Lib.cut
  rw [index_no c l h, if_neg (by omega)]
theorem dec_ne (u : Nat) (c : UInt8) (h : ¬ (48 ≤ c.toNat ∧ c.toNat ≤ 57)) : ∀ x ∈ Lib.decDigits u, x ≠ c := fun x hx e => h (e ▸ dec_digits u x hx)
theorem p_text (c q n : Nat) : p1 (textL c q n) = Lib.decDigits c ∧ p2 (textL c q n) = Lib.decDigits q ∧ p3 (textL c q n) = Lib.decDigits n := by
  have e1 : Lib.cut (textL c q n) [45] = (Lib.decDigits c, Lib.decDigits q ++ (if n = 0 then [] else 46 :: Lib.decDigits n), true) := by
    rw [textL_eq]
    exact cut_sep 45 _ _ (dec_ne c 45 (by decide))
  unfold p1 p2 p3
  rw [e1]
  by_cases h0 : n = 0
  · subst h0
    rw [if_pos rfl, List.append_nil]
    have e2 := cut_no 46 (Lib.decDigits q) (dec_ne q 46 (by decide))
    simp only [e2]
    refine ⟨?_, ?_, ?_⟩ <;> first | trivial | rfl | (rw [Lib.decDigits_one (by omega)]; rfl)
  · rw [if_neg h0]
    have e2 := cut_sep 46 (Lib.decDigits q) (Lib.decDigits n) (dec_ne q 46 (by decide))
    simp only [e2]
    refine ⟨?_, ?_, ?_⟩ <;> first | trivial | rfl
def idV : Option (Nat × Nat × Nat) → Value
  | none => .tuple #[.agg #[.int .u32 0, .int .u32 0, .int .u16 0], .bool false]
  | some (c, q, n) => .tuple #[.agg #[.int .u32 (c : Int), .int .u32 (q : Int), .int .u16 (n : Int)], .bool true]
/-- opid.Parse answers the document's id. -/
theorem parse_idP {l : List UInt8} {w w' : World} {e : Ending} (h : ParseRes l w e w') : e = .returned (idV (idP l)) ∧ Below w.heap.size w w' := by
  obtain ⟨c, q, n, b, rfl, hc, hq, hn, ht, hf, hb⟩ := h
  refine ⟨?_, hb⟩
  cases b
  · obtain ⟨⟨rfl, rfl, rfl⟩, hno⟩ := hf rfl
    cases hi : idP l with
    | none => rfl
    | some r =>
      obtain ⟨c, q, n⟩ := r
      obtain ⟨rfl, h1, h2, h3⟩ := idP_some hi
      obtain ⟨e1, e2, e3⟩ := p_text c q n
      exact absurd rfl (hno c q n (by rw [e1]; exact parseB_dec (by decide) (by omega)) (by rw [e2]; exact parseB_dec (by decide) (by omega)) (by rw [e3]; exact parseB_dec (by decide) (by omega)))
  · rw [← ht rfl, idP_text (by omega) (by omega) (by omega)]
    rfl
end Go.Proofs.YtokcmnenfgbdoaaDoor
