/- References: splitting a text; the numbers of a text. (Printed by gen_rf13.py.) -/
import Derived.Test.YtdnoafjaheofcaaDoorRf12
import Derived.Lib.SplitLaws
set_option linter.unusedSimpArgs false
set_option linter.unusedVariables false
namespace Go.Proofs.YtdnoafjaheofcaaDoor
open Go.RowKit Go.Sort Go.Lib
set_option maxRecDepth 100000

theorem dig_nat (d : Nat) (h : d < 10) : (UInt8.ofNat (48 + d)).toNat = 48 + d := by
  rw [UInt8.toNat_ofNat']
  omega
theorem dec_pos (u : Nat) : 0 < (Lib.decDigits u).length := by
  rw [Lib.decDigits_length]
  exact Lib.nDigits_pos u
theorem dec_digits (u : Nat) : ∀ x ∈ Lib.decDigits u, 48 ≤ x.toNat ∧ x.toNat ≤ 57 := by
  induction u using Nat.strongRecOn with
  | ind u ih =>
    intro x hx
    by_cases h : u < 10
    · rw [Lib.decDigits_one h] at hx
      simp only [List.mem_singleton] at hx
      subst hx
      have := dig_nat u h
      omega
    · rw [decDigits_step h, List.mem_append] at hx
      rcases hx with hx | hx
      · exact ih (u / 10) (by omega) x hx
      · simp only [List.mem_singleton] at hx
        subst hx
        have := dig_nat (u % 10) (by omega)
        omega
theorem parseM_dec (M : Nat) (hM : M ≤ 4294967295) (u : Nat) : u ≤ M → ∀ r, Lib.parseUintM M 0 (Lib.decDigits u ++ r) = Lib.parseUintM M u r := by
  induction u using Nat.strongRecOn with
  | ind u ih =>
    intro hu r
    by_cases h : u < 10
    · rw [Lib.decDigits_one h]
      have e := dig_nat u h
      show Lib.parseUintM M 0 (UInt8.ofNat (48 + u) :: r) = _
      rw [Lib.parseUintM, if_pos (by omega), if_neg (by omega), if_neg (by omega), e]
      congr 1
      omega
    · rw [decDigits_step h, List.append_assoc, ih (u / 10) (by omega) (by omega)]
      have e := dig_nat (u % 10) (by omega)
      show Lib.parseUintM M _ (UInt8.ofNat (48 + u % 10) :: r) = _
      rw [Lib.parseUintM, if_pos (by omega), if_neg (by omega), if_neg (by omega), e]
      congr 1
      omega
theorem parseB_dec {B u : Nat} (hB : 2 ^ B - 1 ≤ 4294967295) (hu : u ≤ 2 ^ B - 1) : Lib.parseUintB B (Lib.decDigits u) = .ok u := by
  unfold Lib.parseUintB
  rw [if_neg (fun e => by have := dec_pos u; rw [e] at this; simp at this)]
  have := parseM_dec (2 ^ B - 1) hB u hu []
  rw [List.append_nil] at this
  rw [this]
  rfl
theorem index_sep (c : UInt8) (r : List UInt8) : ∀ l : List UInt8, (∀ x ∈ l, x ≠ c) → Lib.index (l ++ c :: r) [c] = (l.length : Int)
  | [], _ => by simp [Lib.index]
  | b :: l, h => by
    have hb : (c == b) = false := by rw [beq_eq_false_iff_ne]; exact fun e => h b (by simp) e.symm
    have ih := index_sep c r l (fun x hx => h x (by simp [hx]))
    show Lib.index (b :: (l ++ c :: r)) [c] = _
    rw [Lib.index, ih]
    have h1 : (((l.length : Nat) : Int) == -1) = false := by rw [beq_eq_false_iff_ne]; omega
    have hb2 : ¬ c = b := fun e => h b (by simp) e.symm
    simp [hb2, h1]
theorem index_no (c : UInt8) : ∀ l : List UInt8, (∀ x ∈ l, x ≠ c) → Lib.index l [c] = -1
  | [], _ => by simp [Lib.index]
  | b :: l, h => by
    have hb : (c == b) = false := by rw [beq_eq_false_iff_ne]; exact fun e => h b (by simp) e.symm
    have ih := index_no c l (fun x hx => h x (by simp [hx]))
    rw [Lib.index, ih]
    have hb2 : ¬ c = b := fun e => h b (by simp) e.symm
    simp [hb2]
theorem dec_ne (u : Nat) (c : UInt8) (h : ¬ (48 ≤ c.toNat ∧ c.toNat ≤ 57)) : ∀ x ∈ Lib.decDigits u, x ≠ c := fun x hx e => h (e ▸ dec_digits u x hx)

theorem bstr_data (S : ByteArray) : bstr S.data.toList = S := by cases S; simp [bstr]
theorem splitB_small (sep : ByteArray) : ∀ (k : Nat) (s : ByteArray), ∀ x ∈ Lib.splitB sep 0 k s, x.size ≤ s.size
  | 0, s, x, hx => by rw [Lib.splitB_zero] at hx; simp at hx; subst hx; exact Nat.le_refl _
  | k + 1, s, x, hx => by
    unfold Lib.splitB at hx
    split at hx
    · simp at hx; subst hx; exact Nat.le_refl _
    · rcases List.mem_cons.1 hx with rfl | h
      · rw [ByteArray.size_extract]; omega
      · have := splitB_small sep k _ x h
        rw [ByteArray.size_extract] at this
        omega
/-- The pieces of a text. -/
def pieces (l : List UInt8) (c : UInt8) : List (List UInt8) := Lib.split l [c]
theorem pieces_small (l : List UInt8) (c : UInt8) : ∀ p ∈ pieces l c, p.length ≤ l.length := by
  intro p hp
  have e := Lib.splitB_data ⟨#[c]⟩ 0 (Lib.count l [c]) (bstr l)
  rw [show (bstr l).data.toList = l from by simp [bstr], show (⟨#[c]⟩ : ByteArray).data.toList = [c] from rfl] at e
  unfold pieces Lib.split at hp
  rw [← e] at hp
  obtain ⟨x, hx, rfl⟩ := List.mem_map.1 hp
  have := splitB_small _ _ _ x hx
  rw [bstr_size] at this
  rw [Array.length_toList]
  exact this
theorem pieces_len (l : List UInt8) (c : UInt8) : (pieces l c).length = Lib.count l [c] + 1 ∧ Lib.count l [c] ≤ l.length := by
  have e := Lib.splitB_data ⟨#[c]⟩ 0 (Lib.count l [c]) (bstr l)
  rw [show (bstr l).data.toList = l from by simp [bstr], show (⟨#[c]⟩ : ByteArray).data.toList = [c] from rfl] at e
  have hall := Lib.splitB_all ⟨#[c]⟩ (by show 1 ≤ 1; omega) 0 (Lib.count l [c]) (bstr l) (by unfold Lib.countB; rw [show (bstr l).data.toList = l from by simp [bstr]])
  refine ⟨?_, ?_⟩
  · unfold pieces Lib.split
    rw [← e, List.length_map, hall]
  · rw [Lib.count_one]; exact List.count_le_length
theorem split_walk (l : List UInt8) (c : UInt8) (hl : l.length ≤ 1000000) (w : World) (hL : LaidW w) :
    Calls Tryd.prog 32 #[.string (bstr l), .string ⟨#[c]⟩] w (fun e w' => e = .returned (.slice (some ⟨w.heap.size, 0, none⟩) (pieces l c).length (pieces l c).length) ∧ w' = w.alloc (.cells (strs (pieces l c)).toArray 9)) := by
  obtain ⟨g, m, hg, hlt, hm⟩ := hL.most
  have hg' : g = 3 := Option.some.inj (hg.symm.trans (by kernel_rfl))
  subst hg'
  have h := Tryd.strings_Split (bstr l) ⟨#[c]⟩ m w (by rw [bstr_size]; omega) hm (by show 1 ≤ 1; omega)
  have hc : Lib.countB (bstr l) ⟨#[c]⟩ = Lib.count l [c] := by unfold Lib.countB; rw [show (bstr l).data.toList = l from by simp [bstr]]
  rw [hc] at h
  have e := Lib.splitB_data ⟨#[c]⟩ 0 (Lib.count l [c]) (bstr l)
  rw [show (bstr l).data.toList = l from by simp [bstr], show (⟨#[c]⟩ : ByteArray).data.toList = [c] from rfl] at e
  have hs : (Lib.splitB ⟨#[c]⟩ 0 (Lib.count l [c]) (bstr l)).map Value.string = strs (pieces l c) := by
    unfold strs pieces Lib.split
    rw [← e, List.map_map]
    refine List.map_congr_left fun x _ => ?_
    simp [bstr_data]
  rw [hs] at h
  rw [(pieces_len l c).1]
  exact h

theorem splitK_no (c : UInt8) (k : Nat) (l : List UInt8) (h : ∀ x ∈ l, x ≠ c) : Lib.splitK [c] 0 k l = [l] := by
  cases k with
  | zero => rfl
  | succ k => unfold Lib.splitK; rw [index_no c l h]; rfl
theorem splitK_sep (c : UInt8) (k : Nat) (l r : List UInt8) (h : ∀ x ∈ l, x ≠ c) : Lib.splitK [c] 0 (k + 1) (l ++ c :: r) = l :: Lib.splitK [c] 0 k r := by
  rw [Lib.splitK, index_sep c r l h, if_neg (by intro e; have := beq_iff_eq.1 e; omega)]
  congr 1
  · simp
  · congr 1
    rw [Int.toNat_natCast, show l.length + [c].length = (l ++ [c]).length from by simp, show l ++ c :: r = (l ++ [c]) ++ r from by simp, List.drop_left]
theorem pieces_no {c : UInt8} {l : List UInt8} (h : ∀ x ∈ l, x ≠ c) : pieces l c = [l] := splitK_no c _ l h
theorem pieces_sep {c : UInt8} {l r : List UInt8} (h : ∀ x ∈ l, x ≠ c) : pieces (l ++ c :: r) c = l :: pieces r c := by
  have hi := index_sep c r l h
  unfold pieces Lib.split
  rw [Lib.count_hit (by simp) hi, show (l ++ c :: r).drop (l.length + [c].length) = r from by
    rw [show l.length + [c].length = (l ++ [c]).length from by simp, show l ++ c :: r = (l ++ [c]) ++ r from by simp, List.drop_left], Nat.add_comm 1, splitK_sep c _ l r h]
theorem pieces_join {c : UInt8} : ∀ (ps : List (List UInt8)), ps ≠ [] → (∀ p ∈ ps, ∀ x ∈ p, x ≠ c) → pieces (Lib.join ps [c]) c = ps
  | [], h, _ => absurd rfl h
  | [p], _, h => by rw [Lib.join_one]; exact pieces_no (h p (by simp))
  | p :: q :: r, _, h => by
    rw [Lib.join_cons, show p ++ Lib.joinTail [c] (q :: r) = p ++ c :: Lib.join (q :: r) [c] from by rw [Lib.join_cons]; simp [Lib.joinTail], pieces_sep (h p (by simp)), pieces_join (q :: r) (by simp) (fun s hs => h s (by simp [hs]))]
theorem hexD_ne : ∀ n : Fin 16, hexD n.val ≠ 47 := by decide +kernel
theorem hexL_ne (g : List UInt8) : ∀ x ∈ hexL g, x ≠ 47 := by
  intro x hx
  unfold hexL at hx
  obtain ⟨l, hl, hx⟩ := List.mem_flatten.1 hx
  obtain ⟨c, -, rfl⟩ := List.mem_map.1 hl
  have hc := c.toNat_lt
  simp only [hexC, List.mem_cons, List.not_mem_nil, or_false] at hx
  rcases hx with rfl | rfl
  · exact hexD_ne ⟨c.toNat / 16, by omega⟩
  · exact hexD_ne ⟨c.toNat % 16, by omega⟩
theorem atoi_dec : ∀ n : Fin 256, Lib.atoiAll (Lib.decDigits n.val) = .ok (n.val : Int) := by decide +kernel
theorem nodeTs_ne {g : List UInt8} {ns : List Int} (h : ∀ i, i < ns.length → okAt ns i) (c : UInt8) (hc : ¬ (48 ≤ c.toNat ∧ c.toNat ≤ 57)) : ∀ p ∈ nodeTs ns, ∀ x ∈ p, x ≠ c := by
  intro p hp x hx
  obtain ⟨n, hn, rfl⟩ := List.mem_map.1 hp
  obtain ⟨i, hi, rfl⟩ := List.mem_iff_getElem.1 hn
  obtain ⟨h0, -, -⟩ := h i hi
  rw [List.getD, List.getElem?_eq_getElem hi, Option.getD_some] at h0
  rw [itoa_pos h0] at hx
  exact dec_ne _ c hc x hx
theorem join_ne {ps : List (List UInt8)} {c : UInt8} (h : ∀ p ∈ ps, ∀ x ∈ p, x ≠ c) (hs : (44 : UInt8) ≠ c) : ∀ x ∈ Lib.join ps [44], x ≠ c := by
  cases ps with
  | nil => intro x hx; simp [Lib.join_nil] at hx
  | cons p r =>
    intro x hx
    rw [Lib.join_cons, List.mem_append] at hx
    rcases hx with hx | hx
    · exact h p (by simp) x hx
    · unfold Lib.joinTail at hx
      obtain ⟨l, hl, hx⟩ := List.mem_flatten.1 hx
      obtain ⟨q, hq, rfl⟩ := List.mem_map.1 hl
      rcases List.mem_append.1 hx with hx | hx
      · simp at hx; subst hx; exact hs
      · exact h q (by simp [hq]) x hx
def trimL (l : List UInt8) : List UInt8 := Lib.trimPrefix l [99, 104, 111, 105, 114, 58]
/-- What a right reference's text falls into. -/
theorem text_parts {g : List UInt8} {v : Nat} {ns : List Int} (hr : rightB g ns = true) : pieces (trimL (textR g v ns)) 47 = [hexL g, Lib.decDigits v, Lib.join (nodeTs ns) [44]] ∧ pieces (Lib.join (nodeTs ns) [44]) 44 = nodeTs ns := by
  obtain ⟨l1, l2, l3, l4, hok⟩ := right_yes hr
  have hne : nodeTs ns ≠ [] := by
    intro h0
    have := congrArg List.length h0
    simp [nodeTs] at this
    rw [this] at l3; simp at l3
  refine ⟨?_, pieces_join _ hne (nodeTs_ne (g := g) hok 44 (by decide))⟩
  have ht : trimL (textR g v ns) = hexL g ++ 47 :: (Lib.decDigits v ++ 47 :: Lib.join (nodeTs ns) [44]) := by
    unfold trimL textR
    rw [if_pos hr]
    have e : [99, 104, 111, 105, 114, 58] ++ hexL g ++ [47] ++ Lib.decDigits v ++ [47] ++ Lib.join (ns.map Lib.itoa) [44] = [99, 104, 111, 105, 114, 58] ++ (hexL g ++ 47 :: (Lib.decDigits v ++ 47 :: Lib.join (nodeTs ns) [44])) := by simp [nodeTs]
    rw [e]
    unfold Lib.trimPrefix Lib.hasPrefix
    rw [if_pos (by simp)]
    rfl
  rw [ht, pieces_sep (hexL_ne g), pieces_sep (dec_ne v 47 (by decide)), pieces_no (join_ne (nodeTs_ne (g := g) hok 47 (by decide)) (by decide))]
end Go.Proofs.YtdnoafjaheofcaaDoor
