/- Two links and what is between: the plain law: messages come in order, once, and all of them in the end. -/
import Derived.Test.YtflgmphghmkciaaLk8
set_option linter.unusedSimpArgs false
set_option linter.unusedVariables false
namespace Go.Proofs.Ytflgmphghmkciaa
open Go.RowKit
set_option maxRecDepth 100000

def outFromP (own other came : Nat) : Nat → List (List UInt8 × Bool) → List Pk
  | _, [] => []
  | n, m :: r => (if m.2 then [⟨own, other, came, n, m.1⟩] else []) ++ outFromP own other came (n + 1) r
theorem outFromP_enc (own other came : Nat) (l : List (List UInt8 × Bool)) : ∀ n, (outFromP own other came n l).map Pk.enc = outFrom own other came n l := by
  induction l with
  | nil => intro n; rfl
  | cons m r ih =>
    intro n
    simp only [outFromP, outFrom, List.map_append, ih]
    split <;> rfl
def outP (d : LkD) : List Pk := outFromP d.own d.other d.came d.first d.l
def outsP (d : LkD) : List Pk := if (outP d).length = 0 ∧ d.heard = true then [⟨d.own, d.other, d.came, 0, []⟩] else outP d
theorem outsP_enc (d : LkD) : (outsP d).map Pk.enc = outsD d := by
  have h : (outP d).map Pk.enc = outD d := outFromP_enc _ _ _ _ _
  have hl : (outD d).length = (outP d).length := by rw [← h, List.length_map]
  unfold outsP outsD
  rw [hl]
  split
  · rfl
  · exact h
def tickD (d : LkD) : LkD := if d.ticks = 2 then anewD { d with ticks := 0 } else { d with ticks := d.ticks + 1 }

def okTo (sent : List (List UInt8)) (p : Pk) : Prop := p.o = 3 ∧ p.c = 0 ∧ p.r ≤ 4 ∧ (p.n = 0 ∧ p.b = [] ∨ 1 ≤ p.n ∧ sent[p.n - 1]? = some p.b)
def okBack (cm : Nat) (p : Pk) : Prop := p.o = 4 ∧ p.r ≤ 4 ∧ p.c ≤ cm ∧ p.n = 0 ∧ p.b = []
structure Inv (sent : List (List UInt8)) (a b : LkD) (tos back : List Pk) : Prop where
  aown : a.own = 3
  bown : b.own = 4
  bl : b.l = []
  acame : a.came = 0
  bfirst : b.first = 1
  aother : a.other = 0 ∧ a.first = 1 ∨ a.other = 4
  bother : b.other = 0 ∧ b.came = 0 ∨ b.other = 3
  af : 1 ≤ a.first
  afc : a.first ≤ b.came + 1
  al : a.l.map (fun m => m.1) = sent.drop (a.first - 1)
  bc : b.came ≤ sent.length
  a8 : a.l.length ≤ 8
  sl : sent.length ≤ 60
  sb : ∀ m ∈ sent, m.length ≤ 50
  at3 : a.ticks < 3
  bt3 : b.ticks < 3
  hto : ∀ p ∈ tos, okTo sent p
  hback : ∀ p ∈ back, okBack b.came p
section
variable {sent : List (List UInt8)} {a b : LkD} {tos back tos' back' : List Pk} {p : Pk} {x : List UInt8}
theorem Inv.sub (h : Inv sent a b tos back) (ht : ∀ p ∈ tos', p ∈ tos) (hb : ∀ p ∈ back', p ∈ back) : Inv sent a b tos' back' :=
  { h with hto := fun p hp => h.hto p (ht p hp), hback := fun p hp => h.hback p (hb p hp) }
theorem Inv.len (h : Inv sent a b tos back) : a.first + a.l.length = sent.length + 1 := by
  have h1 := congrArg List.length h.al
  rw [List.length_map, List.length_drop] at h1
  have := h.af; have := h.afc; have := h.bc
  omega
theorem Inv.aok (h : Inv sent a b tos back) : LkOk a := by
  have hl := h.len
  have hs := h.sl
  have h8 := h.a8
  refine ⟨by have := h.aown; omega, by have := h.aother; omega, h.a8, fun m hm => ?_, by omega, by have := h.acame; omega, h.at3⟩
  have h1 : m.1 ∈ a.l.map (fun m => m.1) := List.mem_map.2 ⟨m, hm, rfl⟩
  rw [h.al] at h1
  have := h.sb _ (List.mem_of_mem_drop h1)
  omega
theorem Inv.bok (h : Inv sent a b tos back) : LkOk b :=
  ⟨by have := h.bown; omega, by have := h.bother; omega, by rw [h.bl]; decide, fun m hm => (by rw [h.bl] at hm; cases hm), by have := h.bfirst; omega, by have := h.bc; have := h.sl; omega, h.bt3⟩
theorem Inv.send (h : Inv sent a b tos back) (h8 : a.l.length < 8) (hx : x.length ≤ 50) (hs : sent.length < 60) : Inv (sent ++ [x]) (sendD a x) b tos back := by
  have hl := h.len
  have hbc := h.bc
  refine { h with al := ?_, bc := ?_, a8 := ?_, sl := ?_, sb := ?_, hto := ?_ }
  · unfold sendD
    dsimp only
    rw [List.map_append, h.al, List.drop_append_of_le_length (by omega)]
    rfl
  · rw [List.length_append]; omega
  · unfold sendD; dsimp only; rw [List.length_append]; simp; omega
  · rw [List.length_append]; simp; omega
  · intro m hm
    rcases List.mem_append.1 hm with hm | hm
    · exact h.sb m hm
    · cases List.mem_singleton.1 hm; exact hx
  · intro p hp
    obtain ⟨h1, h2, h3, h4⟩ := h.hto p hp
    refine ⟨h1, h2, h3, h4.imp id (fun h5 => ⟨h5.1, ?_⟩)⟩
    rw [List.getElem?_append_left (lt_at h5.2)]
    exact h5.2
theorem Inv.take_send (h : Inv sent a b tos back) : (sent ++ [x]).take b.came = sent.take b.came := List.take_append_of_le_length h.bc
theorem okTo_out {sent : List (List UInt8)} {other : Nat} (ho : other ≤ 4) (l : List (List UInt8 × Bool)) : ∀ n, 1 ≤ n → l.map (fun m => m.1) = sent.drop (n - 1) → ∀ p ∈ outFromP 3 other 0 n l, okTo sent p := by
  induction l with
  | nil => intro n _ _ p hp; cases hp
  | cons m r ih =>
    intro n hn hl p hp
    rw [List.map_cons] at hl
    have h0 : sent[n - 1]? = some m.1 := by
      have : (sent.drop (n - 1))[0]? = some m.1 := by rw [← hl]; rfl
      rwa [List.getElem?_drop, Nat.add_zero] at this
    have h1 : r.map (fun m => m.1) = sent.drop (n + 1 - 1) := by
      have : (sent.drop (n - 1)).drop 1 = r.map (fun m => m.1) := by rw [← hl]; rfl
      rw [← this, List.drop_drop]
      congr 1
      omega
    simp only [outFromP] at hp
    rcases List.mem_append.1 hp with hp | hp
    · split at hp
      · cases List.mem_singleton.1 hp
        exact ⟨rfl, rfl, ho, .inr ⟨hn, h0⟩⟩
      · cases hp
    · exact ih (n + 1) (by omega) h1 p hp
theorem Inv.outA (h : Inv sent a b tos back) : Inv sent (outS a) b (tos ++ outsP a) back := by
  refine { h with al := ?_, a8 := ?_, hto := ?_ }
  · show (a.l.map (fun m => (m.1, false))).map (fun m => m.1) = _
    rw [List.map_map]
    exact h.al
  · show (a.l.map (fun m => (m.1, false))).length ≤ 8
    rw [List.length_map]; exact h.a8
  · intro p hp
    rcases List.mem_append.1 hp with hp | hp
    · exact h.hto p hp
    · unfold outsP at hp
      have ho : a.other ≤ 4 := by have := h.aother; omega
      split at hp
      · cases List.mem_singleton.1 hp
        exact ⟨h.aown, h.acame, ho, .inl ⟨rfl, rfl⟩⟩
      · unfold outP at hp
        rw [h.aown, h.acame] at hp
        exact okTo_out ho a.l a.first h.af h.al p hp
theorem Inv.outB (h : Inv sent a b tos back) : Inv sent a (outS b) tos (back ++ outsP b) := by
  refine { h with bl := ?_, hback := ?_ }
  · show b.l.map _ = []
    rw [h.bl]; rfl
  · intro p hp
    rcases List.mem_append.1 hp with hp | hp
    · exact h.hback p hp
    · unfold outsP outP at hp
      rw [h.bl] at hp
      split at hp
      · cases List.mem_singleton.1 hp
        exact ⟨h.bown, by have := h.bother; show b.other ≤ 4; omega, Nat.le_refl _, rfl, rfl⟩
      · cases hp
theorem Inv.tickA (h : Inv sent a b tos back) : Inv sent (tickD a) b tos back := by
  have ht := h.at3
  unfold tickD
  split
  · refine { h with al := ?_, a8 := ?_, at3 := ?_ }
    · show (a.l.map (fun m => (m.1, true))).map (fun m => m.1) = _
      rw [List.map_map]
      exact h.al
    · show (a.l.map (fun m => (m.1, true))).length ≤ 8
      rw [List.length_map]; exact h.a8
    · show 0 < 3; decide
  · exact { h with at3 := by show a.ticks + 1 < 3; omega }
theorem Inv.tickB (h : Inv sent a b tos back) : Inv sent a (tickD b) tos back := by
  have ht := h.bt3
  unfold tickD
  split
  · refine { h with bl := ?_, bt3 := ?_ }
    · show b.l.map _ = []
      rw [h.bl]; rfl
    · show 0 < 3; decide
  · exact { h with bt3 := by show b.ticks + 1 < 3; omega }
/-- What comes tos b. -/
theorem recvB (h : Inv sent a b tos back) (hp : okTo sent p) : (∃ d, mineD b p = d ∧ d.own = 4 ∧ d.other = 3 ∧ d.l = [] ∧ d.first = 1 ∧ d.came = b.came ∧ d.heard = true ∧ d.ticks = b.ticks) := by
  obtain ⟨h1, h2, h3, h4⟩ := hp
  obtain ⟨own, other, l, first, came, heard, ticks⟩ := b
  have e1 := h.bown
  have e2 := h.bl
  have e3 := h.bfirst
  have e4 := h.bother
  dsimp only at e1 e2 e3 e4
  subst e1 e2 e3
  refine ⟨_, rfl, ?_⟩
  rcases e4 with ⟨rfl, rfl⟩ | rfl
  · have hlf : lifeD ⟨4, 0, [], 1, 0, heard, ticks⟩ p.o = ⟨4, 3, [], 1, 0, true, ticks⟩ := by rw [h1]; rfl
    unfold mineD
    rw [hlf, h2]
    dsimp only
    by_cases hr : p.r = 4
    · rw [if_pos hr]
      exact ⟨rfl, rfl, rfl, rfl, rfl, rfl, rfl⟩
    · rw [if_neg hr]
      exact ⟨rfl, rfl, rfl, rfl, rfl, rfl, rfl⟩
  · have hlf : lifeD ⟨4, 3, [], 1, came, heard, ticks⟩ p.o = ⟨4, 3, [], 1, came, true, ticks⟩ := by rw [h1]; rfl
    unfold mineD
    rw [hlf, h2]
    dsimp only
    by_cases hr : p.r = 4
    · rw [if_pos hr]
      exact ⟨rfl, rfl, rfl, rfl, rfl, rfl, rfl⟩
    · rw [if_neg hr]
      exact ⟨rfl, rfl, rfl, rfl, rfl, rfl, rfl⟩
theorem Inv.recvB_f (h : Inv sent a b tos back) (hp : okTo sent p) : p.o < 1000000 ∧ p.r < 1000000 ∧ p.c < 1000000 ∧ p.n < 1000000 ∧ p.b.length ≤ 60000 ∧ (p.n = 0 → p.b = []) ∧ b.other ≤ p.o ∧ (p.r = b.own → p.c + 1 ≤ (lifeD b p.o).first + b.l.length) := by
  obtain ⟨h1, h2, h3, h4⟩ := hp
  have hs := h.sl
  have ho := h.bother
  have hf := h.bfirst
  refine ⟨by omega, by omega, by omega, ?_, ?_, fun e => ?_, by omega, fun _ => ?_⟩
  · rcases h4 with h4 | h4
    · omega
    · have := lt_at h4.2; omega
  · rcases h4 with h4 | h4
    · rw [h4.2]; decide
    · have := h.sb _ (List.mem_of_getElem? h4.2); omega
  · rcases h4 with h4 | h4
    · exact h4.2
    · omega
  · rw [h2]
    unfold lifeD
    split
    · show 0 + 1 ≤ 1 + _; omega
    · show 0 + 1 ≤ b.first + _; omega
theorem Inv.recvB_i (h : Inv sent a b tos back) (hp : okTo sent p) : Inv sent a (recvD b p) tos back ∧ sent.take (recvD b p).came = sent.take b.came ++ recvM b p ∧ (recvD b p).heard = true ∧ (recvD b p).other = 3 ∧ (recvD b p).came = (if p.n = b.came + 1 then p.n else b.came) := by
  obtain ⟨d, hd, d1, d2, d3, d4, d5, d6, d7⟩ := recvB h hp
  obtain ⟨h1, h2, h3, h4⟩ := hp
  unfold recvD recvM
  rw [hd, d5]
  have hafc := h.afc
  have hbc := h.bc
  by_cases hn : p.n ≠ 0 ∧ p.n = b.came + 1
  · rw [if_pos hn, if_pos hn, if_pos hn.2]
    have hg : sent[b.came]? = some p.b := by
      rcases h4 with h4 | h4
      · exact absurd h4.1 hn.1
      · have := h4.2
        rw [hn.2, Nat.add_sub_cancel] at this
        exact this
    have hlt := lt_at hg
    have hn2 := hn.2
    refine ⟨{ h with bown := d1, bl := d3, bfirst := d4, bother := .inr d2, afc := ?_, bc := ?_, bt3 := ?_, hback := ?_ }, ?_, d6, d2, rfl⟩
    · show a.first ≤ p.n + 1; omega
    · show p.n ≤ sent.length; omega
    · show d.ticks < 3; rw [d7]; exact h.bt3
    · intro q hq
      obtain ⟨q1, q2, q3, q4⟩ := h.hback q hq
      exact ⟨q1, q2, by show q.c ≤ p.n; omega, q4⟩
    · show sent.take p.n = _
      rw [hn2, List.take_add_one, hg]
      rfl
  · rw [if_neg hn, if_neg hn, List.append_nil, d5]
    refine ⟨{ h with bown := d1, bl := d3, bfirst := d4, bother := .inr d2, afc := by rw [d5]; exact h.afc, bc := by rw [d5]; exact h.bc, bt3 := by rw [d7]; exact h.bt3, hback := by rw [d5]; exact h.hback }, rfl, d6, d2, ?_⟩
    split
    · rename_i e
      exact absurd ⟨by omega, e⟩ hn
    · rfl
/-- What comes tos a. -/
theorem Inv.recvA_f (h : Inv sent a b tos back) (hp : okBack b.came p) : p.o < 1000000 ∧ p.r < 1000000 ∧ p.c < 1000000 ∧ p.n < 1000000 ∧ p.b.length ≤ 60000 ∧ (p.n = 0 → p.b = []) ∧ a.other ≤ p.o ∧ (p.r = a.own → p.c + 1 ≤ (lifeD a p.o).first + a.l.length) := by
  obtain ⟨h1, h2, h3, h4, h5⟩ := hp
  have hs := h.sl
  have ho := h.aother
  have hl := h.len
  have hbc := h.bc
  refine ⟨by omega, by omega, by omega, by omega, by rw [h5]; decide, fun _ => h5, by omega, fun _ => ?_⟩
  unfold lifeD
  split
  · show p.c + 1 ≤ 1 + _
    rename_i e
    omega
  · show p.c + 1 ≤ a.first + _; omega
theorem recvA (h : Inv sent a b tos back) (hp : okBack b.came p) : ∃ K, recvD a p = { a with other := 4, l := K, first := (recvD a p).first, heard := true } ∧ (p.r = 3 → p.c = sent.length → K = []) ∧ (a.l = [] → K = []) ∧ 1 ≤ (recvD a p).first ∧ (recvD a p).first ≤ b.came + 1 ∧ K.map (fun m => m.1) = sent.drop ((recvD a p).first - 1) ∧ K.length ≤ 8 := by
  obtain ⟨h1, h2, h3, h4, h5⟩ := hp
  have hl := h.len
  have hbc := h.bc
  have haf := h.af
  have hafc := h.afc
  have h8 := h.a8
  have hal := h.al
  obtain ⟨own, other, l, first, came, heard, ticks⟩ := a
  have e1 := h.aown
  have e3 := h.acame
  have e4 := h.aother
  dsimp only at e1 e3 e4 hl haf hafc h8 hal
  subst e1 e3
  -- behind the life
  have key : ∀ l2 : List (List UInt8 × Bool), l2.map (fun m => m.1) = l.map (fun m => m.1) → (l = [] → l2 = []) → recvD ⟨3, other, l, first, 0, heard, ticks⟩ p = (if p.r = 3 then ackedD ⟨3, 4, l2, first, 0, true, ticks⟩ p.c else ⟨3, 4, l2, first, 0, true, ticks⟩) → ∃ K, recvD ⟨3, other, l, first, 0, heard, ticks⟩ p = ⟨3, 4, K, (recvD ⟨3, other, l, first, 0, heard, ticks⟩ p).first, 0, true, ticks⟩ ∧ (p.r = 3 → p.c = sent.length → K = []) ∧ (l = [] → K = []) ∧ 1 ≤ (recvD ⟨3, other, l, first, 0, heard, ticks⟩ p).first ∧ (recvD ⟨3, other, l, first, 0, heard, ticks⟩ p).first ≤ b.came + 1 ∧ K.map (fun m => m.1) = sent.drop ((recvD ⟨3, other, l, first, 0, heard, ticks⟩ p).first - 1) ∧ K.length ≤ 8 := by
    intro l2 hm hnil he
    have hll : l2.length = l.length := by have := congrArg List.length hm; rwa [List.length_map, List.length_map] at this
    rw [he]
    unfold ackedD
    dsimp only
    by_cases hr : p.r = 3
    · rw [if_pos hr]
      by_cases hlt : p.c < first
      · rw [if_pos hlt]
        exact ⟨l2, rfl, fun _ e => List.eq_nil_of_length_eq_zero (by omega), hnil, haf, hafc, by rw [hm]; exact hal, by omega⟩
      · rw [if_neg hlt]
        refine ⟨l2.drop (p.c + 1 - first), rfl, fun _ e => List.drop_eq_nil_of_le (by omega), fun e => by rw [hnil e]; simp, by show 1 ≤ p.c + 1; omega, by show p.c + 1 ≤ b.came + 1; omega, ?_, by rw [List.length_drop]; omega⟩
        show _ = sent.drop (p.c + 1 - 1)
        rw [List.map_drop, hm, hal, List.drop_drop]
        congr 1
        omega
    · rw [if_neg hr]
      exact ⟨l2, rfl, fun e => absurd e hr, hnil, haf, hafc, by rw [hm]; exact hal, by omega⟩
  have hrv : recvD ⟨3, other, l, first, 0, heard, ticks⟩ p = mineD ⟨3, other, l, first, 0, heard, ticks⟩ p := by
    unfold recvD
    rw [if_neg (fun e => e.1 h4)]
  rcases e4 with ⟨rfl, e5⟩ | rfl
  · refine key (l.map (fun m => (m.1, true))) (by rw [List.map_map]; rfl) (fun e => by rw [e]; rfl) ?_
    have hlf : lifeD ⟨3, 0, l, first, 0, heard, ticks⟩ p.o = ⟨3, 4, l.map (fun m => (m.1, true)), 1, 0, true, ticks⟩ := by rw [h1]; rfl
    rw [hrv]
    unfold mineD
    rw [hlf, e5]
  · refine key l rfl id ?_
    have hlf : lifeD ⟨3, 4, l, first, 0, heard, ticks⟩ p.o = ⟨3, 4, l, first, 0, true, ticks⟩ := by rw [h1]; rfl
    rw [hrv]
    unfold mineD
    rw [hlf]
theorem Inv.recvA_i (h : Inv sent a b tos back) (hp : okBack b.came p) : Inv sent (recvD a p) b tos back ∧ (p.r = 3 → p.c = sent.length → (recvD a p).l = []) ∧ (a.l = [] → (recvD a p).l = []) ∧ (recvD a p).ticks = a.ticks := by
  obtain ⟨K, he, k1, k2, k3, k4, k5, k6⟩ := recvA h hp
  have hl : (recvD a p).l = K := by rw [he]
  refine ⟨{ h with aown := by rw [he]; exact h.aown, acame := by rw [he]; exact h.acame, aother := .inr (by rw [he]), af := k3, afc := k4, al := by rw [hl]; exact k5, a8 := by rw [hl]; exact k6, at3 := by rw [he]; exact h.at3 }, by rw [hl]; exact k1, by rw [hl]; exact k2, by rw [he]⟩
end
end Go.Proofs.Ytflgmphghmkciaa
