/- Two links: in the end all of them come. -/
import Derived.Test.YtflgmphghmkciaaLk9
set_option linter.unusedSimpArgs false
set_option linter.unusedVariables false
namespace Go.Proofs.Ytflgmphghmkciaa
open Go.RowKit
set_option maxRecDepth 100000

def feed (d : LkD) (ps : List Pk) : LkD := ps.foldl recvD d
theorem feed_cons (d : LkD) (p : Pk) (ps : List Pk) : feed d (p :: ps) = feed (recvD d p) ps := rfl
theorem feed_succ {d : LkD} {ps : List Pk} {k : Nat} {p : Pk} (h : ps[k]? = some p) : feed d (ps.take (k + 1)) = recvD (feed d (ps.take k)) p := by
  unfold feed
  rw [List.take_add_one, h]
  show List.foldl recvD d (ps.take k ++ [p]) = _
  rw [List.foldl_append]
  rfl
section
variable {sent : List (List UInt8)} {tos back : List Pk}
theorem feedA_i {b : LkD} (Q : List Pk) : ∀ a, Inv sent a b tos back → (∀ p ∈ Q, okBack b.came p) → Inv sent (feed a Q) b tos back ∧ (a.l = [] → (feed a Q).l = []) ∧ (feed a Q).ticks = a.ticks := by
  induction Q with
  | nil => intro a h _; exact ⟨h, id, rfl⟩
  | cons p r ih =>
    intro a h hq
    obtain ⟨h1, -, h2, h3⟩ := h.recvA_i (hq p (List.mem_cons_self))
    obtain ⟨h4, h5, h6⟩ := ih _ h1 (fun q hq' => hq q (List.mem_cons_of_mem _ hq'))
    rw [feed_cons]
    exact ⟨h4, fun e => h5 (h2 e), h6.trans h3⟩
theorem feedB_i {a : LkD} (Q : List Pk) : ∀ b, Inv sent a b tos back → (∀ p ∈ Q, okTo sent p) → Inv sent a (feed b Q) tos back := by
  induction Q with
  | nil => intro a h _; exact h
  | cons p r ih =>
    intro b h hq
    rw [feed_cons]
    exact ih _ (h.recvB_i (hq p (List.mem_cons_self))).1 (fun q hq' => hq q (List.mem_cons_of_mem _ hq'))
theorem feedB_all {a : LkD} {other : Nat} (ho : other ≤ 4) (l : List (List UInt8 × Bool)) : ∀ (n : Nat) (b : LkD), Inv sent a b tos back → 1 ≤ n → n ≤ b.came + 1 → l.map (fun m => m.1) = sent.drop (n - 1) → (∀ m ∈ l, m.2 = true) → (feed b (outFromP 3 other 0 n l)).came = sent.length ∧ (l ≠ [] → (feed b (outFromP 3 other 0 n l)).heard = true ∧ (feed b (outFromP 3 other 0 n l)).other = 3) := by
  induction l with
  | nil =>
    intro n b h hn hnc hl _
    have h1 := congrArg List.length hl
    rw [List.map_nil, List.length_drop] at h1
    have := h.bc
    refine ⟨?_, fun e => absurd rfl e⟩
    show b.came = sent.length
    simp at h1
    omega
  | cons m r ih =>
    intro n b h hn hnc hl hm
    have hok := okTo_out (sent := sent) ho (m :: r) n hn hl
    have hm1 := hm m List.mem_cons_self
    have e : outFromP 3 other 0 n (m :: r) = ⟨3, other, 0, n, m.1⟩ :: outFromP 3 other 0 (n + 1) r := by simp only [outFromP]; rw [if_pos hm1]; rfl
    rw [e] at hok ⊢
    rw [feed_cons]
    obtain ⟨h1, h2, h3, h4, h5⟩ := h.recvB_i (hok _ List.mem_cons_self)
    have hl2 : r.map (fun m => m.1) = sent.drop (n + 1 - 1) := by
      have : (sent.drop (n - 1)).drop 1 = r.map (fun m => m.1) := by rw [← hl]; rfl
      rw [← this, List.drop_drop]
      congr 1
      omega
    dsimp only at h5
    have hnc2 : n + 1 ≤ (recvD b ⟨3, other, 0, n, m.1⟩).came + 1 := by
      rw [h5]
      split <;> omega
    obtain ⟨q1, q2⟩ := ih (n + 1) _ h1 (by omega) hnc2 hl2 (fun q hq => hm q (List.mem_cons_of_mem _ hq))
    refine ⟨q1, fun _ => ?_⟩
    cases r with
    | nil => exact ⟨h3, h4⟩
    | cons x y => exact q2 (fun e => by cases e)
def Live (i : Nat) (a : LkD) : Prop := a.l = [] ∨ ((∀ m ∈ a.l, m.2 = true) ∧ i ≤ 3) ∨ i ≤ a.ticks
theorem outP_now {a : LkD} (h : a.l ≠ []) (hm : ∀ m ∈ a.l, m.2 = true) : (outP a).length ≠ 0 := by
  unfold outP
  cases hl : a.l with
  | nil => exact absurd hl h
  | cons m r =>
    rw [hl] at hm
    simp only [outFromP]
    rw [if_pos (hm m List.mem_cons_self)]
    simp
theorem tickD_nil {d : LkD} (h : d.l = []) : (tickD d).l = [] := by
  unfold tickD anewD
  split
  · show d.l.map _ = []; rw [h]; rfl
  · exact h
theorem round_live {a b : LkD} {i : Nat} (h : Inv sent a b [] []) (hL : Live i a) : Live (i + 1) (tickD (feed (outS a) (outsP (feed b (outsP a))))) := by
  have h1 := h.outA
  rw [List.nil_append] at h1
  have h2 := feedB_i (outsP a) b h1 (fun p hp => h1.hto p hp)
  have h3 := h2.outB
  rw [List.nil_append] at h3
  have hQ : ∀ p ∈ outsP (feed b (outsP a)), okBack (feed b (outsP a)).came p := fun p hp => h3.hback p hp
  obtain ⟨h4, h5, h6⟩ := feedA_i (outsP (feed b (outsP a))) (outS a) h2 hQ
  rcases Nat.eq_zero_or_pos a.l.length with h0 | h0
  · have hn : a.l = [] := List.eq_nil_of_length_eq_zero h0
    exact .inl (tickD_nil (h5 (by show a.l.map _ = []; rw [hn]; rfl)))
  · have hne : a.l ≠ [] := fun e => by rw [e] at h0; exact absurd h0 (by simp)
    rcases hL with hL | ⟨hL, hi⟩ | hL
    · exact absurd hL hne
    · -- all go, all come, and the answer takes them away
      refine .inl (tickD_nil ?_)
      have ho : a.other ≤ 4 := by have := h.aother; omega
      have eP : outsP a = outFromP 3 a.other 0 a.first a.l := by
        unfold outsP
        rw [if_neg (fun e => outP_now hne hL e.1)]
        unfold outP
        rw [h.aown, h.acame]
      obtain ⟨g1, g2⟩ := feedB_all ho a.l a.first b h1 h.af h.afc h.al hL
      rw [← eP] at g1 g2
      obtain ⟨g3, g4⟩ := g2 hne
      have hbl := h2.bl
      have eQ : outsP (feed b (outsP a)) = [⟨4, 3, sent.length, 0, []⟩] := by
        have hbo := h2.bown
        generalize feed b (outsP a) = D at *
        unfold outsP outP
        rw [hbl, hbo, if_pos ⟨rfl, g3⟩, g1, g4]
      have hq := hQ
      rw [eQ] at hq ⊢
      rw [feed_cons]
      exact (h2.recvA_i (hq _ List.mem_cons_self)).2.1 rfl rfl
    · -- a tick
      have ht : (feed (outS a) (outsP (feed b (outsP a)))).ticks = a.ticks := h6
      have h3t := h.at3
      unfold tickD
      rw [ht]
      by_cases e : a.ticks = 2
      · rw [if_pos e]
        refine .inr (.inl ⟨fun m hm => ?_, by omega⟩)
        obtain ⟨q, -, rfl⟩ := List.mem_map.1 hm
        rfl
      · rw [if_neg e]
        exact .inr (.inr (by show i + 1 ≤ a.ticks + 1; omega))
theorem live_end {a b : LkD} (h : Inv sent a b tos back) (hL : Live 32 a) : a.l = [] ∧ sent.take b.came = sent := by
  have hl : a.l = [] := by
    rcases hL with hL | ⟨-, hL⟩ | hL
    · exact hL
    · omega
    · have := h.at3; omega
  refine ⟨hl, ?_⟩
  have h1 := h.len
  rw [hl] at h1
  have := h.afc
  have := h.bc
  have h2 := h.af
  rw [List.length_nil] at h1
  exact List.take_of_length_le (by omega)
theorem live_start {a : LkD} : Live 0 a := .inr (.inr (Nat.zero_le _))
theorem inv_start : Inv [] ⟨3, 0, [], 1, 0, false, 0⟩ ⟨4, 0, [], 1, 0, false, 0⟩ [] [] :=
  ⟨rfl, rfl, rfl, rfl, rfl, .inl ⟨rfl, rfl⟩, .inl ⟨rfl, rfl⟩, by decide, by decide, rfl, by decide, by decide, by decide, by simp, by decide, by decide, by simp, by simp⟩
end
end Go.Proofs.Ytflgmphghmkciaa
