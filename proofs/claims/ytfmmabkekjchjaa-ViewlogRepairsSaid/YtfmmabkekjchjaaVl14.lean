/- Clean calls that are the same are one. -/
import Derived.Test.YtfmmabkekjchjaaVl10
import Derived.Test.YtfmmabkekjchjaaAlikeV
set_option linter.unusedSimpArgs false
set_option linter.unusedVariables false
namespace Go.Proofs.Ytfmmabkekjchjaa
open Go.RowKit
set_option maxRecDepth 100000

theorem clean_form {k i : Int} {f : Nat} {s : List UInt8} {l : List Val} (h : cleanV (.mk k i f s l) = .mk k i f s l) :
    (k = 1 ∧ f = 0 ∧ s = [] ∧ l = []) ∨ (k = 2 ∧ i = 0 ∧ cb f = f ∧ s = [] ∧ l = []) ∨ (k = 3 ∧ i = 0 ∧ f = 0 ∧ l = []) ∨ (k = 4 ∧ i = 0 ∧ f = 0 ∧ s = [] ∧ cleanL l = l) ∨ (k = 0 ∧ i = 0 ∧ f = 0 ∧ s = [] ∧ l = []) := by
  unfold cleanV at h
  split at h
  · rename_i hk; injection h with h1 h2 h3 h4 h5; exact .inl ⟨hk, h3.symm, h4.symm, h5.symm⟩
  split at h
  · rename_i hk; injection h with h1 h2 h3 h4 h5; exact .inr (.inl ⟨hk, h2.symm, h3, h4.symm, h5.symm⟩)
  split at h
  · rename_i hk; injection h with h1 h2 h3 h4 h5; exact .inr (.inr (.inl ⟨hk, h2.symm, h3.symm, h5.symm⟩))
  split at h
  · rename_i hk; injection h with h1 h2 h3 h4 h5; exact .inr (.inr (.inr (.inl ⟨hk, h2.symm, h3.symm, h4.symm, h5⟩)))
  · injection h with h1 h2 h3 h4 h5; exact .inr (.inr (.inr (.inr ⟨h1.symm, h2.symm, h3.symm, h4.symm, h5.symm⟩)))
mutual
theorem ord_clean : ∀ (v v' : Val), cleanV v = v → cleanV v' = v' → OkV v → OkV v' → ordV v v' = 0 → v = v'
  | .mk k i f s l, .mk k' i' f' s' l', hc, hc', ok, ok', ho => by
    rw [ordV] at ho
    unfold ordC at ho
    rcases ok with ⟨hf, -, hok, -⟩
    rcases ok' with ⟨hf', -, hok', -⟩
    have ihl := ord_cleanL l l'
    rcases clean_form hc with ⟨rfl, rfl, rfl, rfl⟩ | ⟨rfl, rfl, hcb, rfl, rfl⟩ | ⟨rfl, rfl, rfl, rfl⟩ | ⟨rfl, rfl, rfl, rfl, hcl⟩ | ⟨rfl, rfl, rfl, rfl, rfl⟩ <;>
    rcases clean_form hc' with ⟨rfl, rfl, rfl, rfl⟩ | ⟨rfl, rfl, hcb', rfl, rfl⟩ | ⟨rfl, rfl, rfl, rfl⟩ | ⟨rfl, rfl, rfl, rfl, hcl'⟩ | ⟨rfl, rfl, rfl, rfl, rfl⟩ <;>
    first
      | (exfalso; simp [kindOf, cmpI] at ho; done)
      | (have h := (cmpI_zero_iff _ _).1 (by simpa [kindOf] using ho); subst h; rfl; done)
      | (have h := (ordFl_zero _ _ hf hf').1 (by simpa [kindOf] using ho); rw [hcb, hcb'] at h; subst h; rfl; done)
      | (have h := (compare_eq_zero _ _).1 (by simpa [kindOf] using ho); have h := bstr_inj (ByteArray.ext (Array.toList_inj.1 h)); subst h; rfl; done)
      | (have h := ihl hcl hcl' (fun v hv => hok v hv) (fun v hv => hok' v hv) (by simpa [kindOf] using ho); subst h; rfl; done)
      | rfl
theorem ord_cleanL : ∀ (l l' : List Val), cleanL l = l → cleanL l' = l' → (∀ v ∈ l, OkV v) → (∀ v ∈ l', OkV v) → ordL l l' = 0 → l = l'
  | [], [], _, _, _, _, _ => rfl
  | [], _ :: _, _, _, _, _, h => by rw [ordL] at h; cases h
  | _ :: _, [], _, _, _, _, h => by rw [ordL] at h; cases h
  | v :: l, v' :: l', hc, hc', ok, ok', h => by
    rw [ordL] at h
    unfold cleanL at hc hc'
    injection hc with h1 h2
    injection hc' with h1' h2'
    by_cases h0 : ordV v v' = 0
    · rw [if_pos h0] at h
      rw [ord_clean v v' h1 h1' (ok v (List.mem_cons_self ..)) (ok' v' (List.mem_cons_self ..)) h0, ord_cleanL l l' h2 h2' (fun x hx => ok x (List.mem_cons_of_mem _ hx)) (fun x hx => ok' x (List.mem_cons_of_mem _ hx)) h]
    · rw [if_neg h0] at h
      exact absurd h h0
end
theorem same_clean {o o' : OpD} (h1 : ∀ v ∈ o.l, cleanV v = v ∧ OkV v) (h2 : ∀ v ∈ o'.l, cleanV v = v ∧ OkV v) (h : sameO o o' = true) : o = o' := by
  have clL : ∀ l : List Val, (∀ v ∈ l, cleanV v = v ∧ OkV v) → cleanL l = l := fun l hl => by
    rw [cleanL_map]
    conv => rhs; rw [← List.map_id l]
    exact List.map_congr_left (fun v hv => (hl v hv).1)
  obtain ⟨c, s, n, g, m, l⟩ := o
  obtain ⟨c', s', n', g', m', l'⟩ := o'
  unfold sameO sameL at h
  simp only [Bool.and_eq_true, decide_eq_true_eq] at h
  obtain ⟨⟨⟨⟨⟨rfl, rfl⟩, rfl⟩, hg⟩, hm⟩, -, hl⟩ := h
  have e := ord_cleanL l l' (clL l h1) (clL l' h2) (fun v hv => (h1 v hv).2) (fun v hv => (h2 v hv).2) hl
  rw [bstr_inj hg, bstr_inj hm, e]
/-- What two clean logs have in common is one. -/
theorem sameN_take : ∀ (a b : List (Nat × OpD)), OkLog a → OkLog b → a.take (sameN a b) = b.take (sameN a b)
  | [], b, _, _ => by rw [show sameN [] b = 0 from by cases b <;> rfl]; simp
  | x :: a, [], _, _ => by rw [show sameN (x :: a) [] = 0 from rfl]; simp
  | x :: a, y :: b, ha, hb => by
    unfold sameN
    split
    · rename_i h
      have ih := sameN_take a b (fun z hz => ha z (List.mem_cons_of_mem _ hz)) (fun z hz => hb z (List.mem_cons_of_mem _ hz))
      have e := same_clean (ha x (List.mem_cons_self ..)).1 (hb y (List.mem_cons_self ..)).1 h.2
      rw [List.take_succ_cons, List.take_succ_cons, ih, show x = y from Prod.ext h.1 e]
    · simp
end Go.Proofs.Ytfmmabkekjchjaa
