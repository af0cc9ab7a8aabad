/- References: what is written is read back (plain). -/
import Derived.Test.YtdnoafjaheofcaaDoorRf16
set_option linter.unusedSimpArgs false
set_option linter.unusedVariables false
namespace Go.Proofs.YtdnoafjaheofcaaDoor
open Go.RowKit Go.Sort Go.Lib
set_option maxRecDepth 100000

theorem take_putU {v k : Nat} (l : List UInt8) : (putU v k ++ l).take k = putU v k := by
  have := List.take_left (l₁ := putU v k) (l₂ := l)
  rwa [putU_len] at this
theorem drop_putU {v k : Nat} (l : List UInt8) : (putU v k ++ l).drop k = l := by
  have := List.drop_left (l₁ := putU v k) (l₂ := l)
  rwa [putU_len] at this
theorem drop_app {a b : List UInt8} {n : Nat} (h : a.length = n) : (a ++ b).drop n = b := by subst h; exact List.drop_left
theorem opened_framed (p more : List UInt8) (hp : p.length ≤ 65536) : opened (framed p ++ more) = (p, 8 + p.length, 0) := by
  have h4 : (framed p ++ more).take 4 = putU p.length 4 := by simp only [framed, List.append_assoc]; exact take_putU _
  have hd4 : (framed p ++ more).drop 4 = putU (fsum p) 4 ++ (p ++ more) := by simp only [framed, List.append_assoc]; exact drop_putU _
  have hd8 : (framed p ++ more).drop 8 = p ++ more := by
    rw [show (8 : Nat) = 4 + 4 from rfl, ← List.drop_drop, hd4]; exact drop_putU _
  have hn : readU (putU p.length 4) = p.length := by rw [readU_put]; exact Nat.mod_eq_of_lt (by omega)
  have hs : readU (putU (fsum p) 4) = fsum p := by rw [readU_put]; exact Nat.mod_eq_of_lt (fsum_lt p)
  have hl : (framed p ++ more).length = 8 + p.length + more.length := by rw [List.length_append, framed_len]
  unfold opened
  rw [if_neg (by omega), h4, hn, if_neg (by omega), if_neg (by omega), hd8, hd4, take_putU, hs, List.take_left, if_pos rfl]

theorem nodesI_B {ns : List Int} (h : ∀ i, i < ns.length → okAt ns i) : nodesI (nodesB ns) = ns := by
  apply List.ext_getElem (by simp [nodesI, nodesB])
  intro i h1 h2
  obtain ⟨o0, o1, -⟩ := h i h2
  rw [List.getD, List.getElem?_eq_getElem h2, Option.getD_some] at o0 o1
  have e := nodeB_val o0 o1
  simp only [nodesI, nodesB, List.getElem_map]
  omega
theorem readT_pay {g rest : List UInt8} (hg : g.length ≤ 32) : readT (putU g.length 2 ++ g ++ rest) 32 = (g, 2 + g.length, 0) := by
  have e2 : (putU g.length 2 ++ g ++ rest).take 2 = putU g.length 2 := by
    rw [List.append_assoc, List.take_append_of_le_length (by rw [putU_len]; omega), List.take_of_length_le (by rw [putU_len]; omega)]
  have er : readU (putU g.length 2) = g.length := by rw [readU_put]; omega
  unfold readT
  rw [e2, er, if_pos ⟨by simp only [List.length_append, putU_len]; omega, by omega, by simp only [List.length_append, putU_len]; omega⟩]
  have ed : (putU g.length 2 ++ g ++ rest).drop 2 = g ++ rest := by
    rw [List.append_assoc]; exact drop_app (putU_len _ _)
  rw [ed, List.take_left]
theorem rd_framed {g : List UInt8} {v : Nat} {ns : List Int} (hr : rightB g ns = true) (hv : v < 4294967296) : rdRef (framed (payR g v ns)) = ((g, v, ns), true) := by
  obtain ⟨l1, l2, l3, l4, hok⟩ := right_yes hr
  have ho : opened (framed (payR g v ns)) = (payR g v ns, 8 + (payR g v ns).length, 0) := by
    have h := opened_framed (payR g v ns) [] (by rw [payR_len]; omega)
    rw [List.append_nil] at h; exact h
  have ht : readT (payR g v ns) 32 = (g, 2 + g.length, 0) := by
    have := readT_pay (g := g) (rest := putU v 4 ++ [UInt8.ofNat ns.length] ++ nodesB ns) l2
    rw [← this]; simp [payR]
  have hd : (payR g v ns).drop (2 + g.length) = putU v 4 ++ ([UInt8.ofNat ns.length] ++ nodesB ns) := by
    have e : payR g v ns = (putU g.length 2 ++ g) ++ (putU v 4 ++ ([UInt8.ofNat ns.length] ++ nodesB ns)) := by simp [payR]
    rw [e]; exact drop_app (by simp only [List.length_append, putU_len])
  unfold rdRef
  rw [ho]
  dsimp only
  rw [if_pos ⟨rfl, (framed_len _).symm⟩, ht]
  dsimp only
  rw [if_pos rfl, hd]
  have h5 : (putU v 4 ++ ([UInt8.ofNat ns.length] ++ nodesB ns)).length = 5 + ns.length := by simp only [List.length_append, putU_len, nodesB, List.length_map, List.length_cons, List.length_nil]; omega
  have h4 : (putU v 4 ++ ([UInt8.ofNat ns.length] ++ nodesB ns)).getD 4 0 = UInt8.ofNat ns.length := by
    rw [List.getD, List.getElem?_append_right (by rw [putU_len]; omega), putU_len]; rfl
  have hn : (UInt8.ofNat ns.length).toNat = ns.length := by rw [UInt8.toNat_ofNat']; omega
  rw [h4, hn, h5, if_pos ⟨by omega, rfl⟩]
  have htk : (putU v 4 ++ ([UInt8.ofNat ns.length] ++ nodesB ns)).take 4 = putU v 4 := by
    rw [List.take_append_of_le_length (by rw [putU_len]; omega), List.take_of_length_le (by rw [putU_len]; omega)]
  have hdr : (putU v 4 ++ ([UInt8.ofNat ns.length] ++ nodesB ns)).drop 5 = nodesB ns := by
    rw [← List.append_assoc]; exact drop_app (by simp [putU_len])
  have hrd : readU (putU v 4) = v := by rw [readU_put]; omega
  rw [htk, hdr, hrd, nodesI_B hok, hr]
theorem textR_len {g : List UInt8} {v : Nat} {ns : List Int} (hr : rightB g ns = true) (hv : v < 4294967296) : (textR g v ns).length ≤ 300 ∧ 0 < (textR g v ns).length := by
  obtain ⟨l1, l2, l3, l4, hok⟩ := right_yes hr
  have hj := join_len (nodeTs ns) 20 (nodeTs_len (g := g) hok)
  have e : (nodeTs ns).length = ns.length := by simp [nodeTs]
  have hd := dec_len (u := v) (by omega)
  rw [e] at hj
  unfold textR
  rw [if_pos hr, show ns.map Lib.itoa = nodeTs ns from rfl]
  simp only [List.length_append, List.length_cons, List.length_nil, hexL_len]
  omega
theorem rdR_framed {g : List UInt8} {v : Nat} {ns : List Int} (hr : rightB g ns = true) (hv : v < 4294967296) : rdR (framed (payR g v ns)) = (g, v, ns) ∧ rdE (framed (payR g v ns)) = 0 := by
  unfold rdR rdE
  rw [rd_framed hr hv]
  exact ⟨rfl, rfl⟩
end Go.Proofs.YtdnoafjaheofcaaDoor
