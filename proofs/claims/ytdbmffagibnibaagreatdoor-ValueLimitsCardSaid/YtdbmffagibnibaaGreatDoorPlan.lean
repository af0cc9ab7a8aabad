/-
  A region that draws its order, in which at some places two operations may come in either order: XRegion's law along a plan.
-/
import Derived.Test.YtdbmffagibnibaaGreatDoorPair
namespace Go.Proofs.YtdbmffagibnibaaGreatDoor

inductive Plan where
  | nil
  | one (i : Nat) (p : Plan)
  | two (i : Nat) (p : Plan) (j : Nat) (q : Plan)
def Plan.len : Plan → Nat
  | .nil => 0
  | .one _ p => p.len + 1
  | .two _ p _ _ => p.len + 1
def Plan.even : Plan → Bool
  | .nil => true
  | .one _ p => p.even
  | .two _ p _ q => p.even && q.even && p.len == q.len

section
variable {P : Program} {ops : Array Oper} {Q : Exit → Act → World → Prop} {md : Region.Mode} {H N : List Nat}

def planOk (md : Region.Mode) (ops : Array Oper) (N : List Nat) : Plan → Array Bool → Bool
  | .nil, listed => (Region.ready md ops listed).isEmpty
  | .one i p, listed => readyAt md ops listed i && (if N.contains i then Region.ready md ops listed == [i] else Region.free md ops listed i) && planOk md ops N p (listed.setIfInBounds i true)
  | .two i p j q, listed => N.contains i && N.contains j && Region.ready md ops listed == [i, j] && planOk md ops N p (listed.setIfInBounds i true) && planOk md ops N q (listed.setIfInBounds j true)

def planG (P : Program) (md : Region.Mode) (ops : Array Oper) (Q : Exit → Act → World → Prop) (H N : List Nat) : Plan → (World → Prop) → Act → World → Prop
  | .nil, _, a, w => Q .normal a w
  | .one i p, S, a, w =>
    if N.contains i then wpOp P ops Q i (fun a' w' => ∃ S' : World → Prop, (∀ x, S' x → S x) ∧ (needS md ops H i = true → S' w') ∧ planG P md ops Q H N p S' a' w') a w
    else ∃ o v, ops[i]? = some o ∧ YieldsIf P ops (fun w' => H.contains i = true → S w') o v a ∧ (H.contains i = true → S w) ∧ planG P md ops Q H N p S (a.put o.dst v) w
  | .two i p j q, S, a, w =>
    wpOp P ops Q i (fun a' w' => ∃ S' : World → Prop, (∀ x, S' x → S x) ∧ (needS md ops H i = true → S' w') ∧ planG P md ops Q H N p S' a' w') a w ∧
    wpOp P ops Q j (fun a' w' => ∃ S' : World → Prop, (∀ x, S' x → S x) ∧ (needS md ops H j = true → S' w') ∧ planG P md ops Q H N q S' a' w') a w

theorem plan_sound (hsel : ∀ (j : Nat) (o : Oper) cs b, ops[j]? = some o → o.op ≠ .select cs b) (hQ : ∀ c a d v w, Q (.panic c) (a.put d v) w → Q (.panic c) a w) :
    ∀ (p : Plan) (S : World → Prop) (listed : Array Bool) (a : Act) (w : World), p.even = true → planOk md ops N p listed = true → planG P md ops Q H N p S a w → wpAnyG P md ops Q H N p.len S listed a w
  | .nil, _, listed, a, w, _, hok, h => ⟨by simpa [planOk] using hok, h⟩
  | .one i p, S, listed, a, w, hev, hok, h => by
    simp only [planOk, Bool.and_eq_true] at hok
    obtain ⟨⟨hr, hk⟩, hrest⟩ := hok
    have hri : i ∈ Region.ready md ops listed := ready_of_at hr
    unfold planG at h
    cases hN : N.contains i with
    | true =>
      rw [hN] at h hk
      simp only [if_true, beq_iff_eq] at h hk
      refine ⟨fun h0 => (by rw [h0] at hk; cases hk), fun j hj => ?_⟩
      rw [hk] at hj
      obtain rfl : j = i := by simpa using hj
      exact wpOp_mono (fun a' w' ⟨S', hsub, hask, hl⟩ => ⟨S', hsub, by unfold askS; rw [hN]; exact hask, plan_sound hsel hQ p S' _ a' w' hev hrest hl⟩) h
    | false =>
      rw [hN] at h hk
      simp only [Bool.false_eq_true, if_false] at h hk
      obtain ⟨o, v, ho, hy, hS, hl⟩ := h
      exact wpAnyG_first ho hN hsel (fun c a w => hQ c a o.dst v w) _ S listed a w (Region.free_spec ho hk) hri hy hS (plan_sound hsel hQ p S _ _ w hev hrest hl)
  | .two i p j q, S, listed, a, w, hev, hok, h => by
    simp only [planOk, Bool.and_eq_true, beq_iff_eq] at hok
    obtain ⟨⟨⟨⟨hi, hj⟩, hr⟩, ok1⟩, ok2⟩ := hok
    simp only [Plan.even, Bool.and_eq_true, beq_iff_eq] at hev
    obtain ⟨⟨ev1, ev2⟩, hlen⟩ := hev
    unfold planG at h
    refine ⟨fun h0 => (by rw [h0] at hr; cases hr), fun k hk => ?_⟩
    rw [hr] at hk
    simp only [List.mem_cons, List.not_mem_nil, or_false] at hk
    rcases hk with rfl | rfl
    · exact wpOp_mono (fun a' w' ⟨S', hsub, hask, hl⟩ => ⟨S', hsub, by unfold askS; rw [hi]; exact hask, plan_sound hsel hQ p S' _ a' w' ev1 ok1 hl⟩) h.1
    · refine wpOp_mono (fun a' w' ⟨S', hsub, hask, hl⟩ => ⟨S', hsub, by unfold askS; rw [hj]; exact hask, ?_⟩) h.2
      have := plan_sound hsel hQ q S' _ a' w' ev2 ok2 hl
      rw [← hlen] at this
      exact this

theorem wp_region_plan {id : Nat} {a : Act} {w : World} {l : List Oper} (S : World → Prop) (H N : List Nat) (p : Plan) (hm : P.follows .mixedOrders = true) (hlen : p.len = l.toArray.size) (hev : p.even = true)
    (hs : Region.noSelect l.toArray = true) (hok : planOk .any l.toArray N p (Array.replicate l.toArray.size false) = true) (hQ : ∀ c a d v w, Q (.panic c) (a.put d v) w → Q (.panic c) a w)
    (h : planG P .any l.toArray Q H N p S a w.drew) : (Code.region id l.toArray true).wp P Q a w :=
  wp_region_any hm (wpAny_of_G _ S _ _ _ (hlen ▸ plan_sound (Region.noSelect_spec hs) hQ p S _ a w.drew hev hok h))

/-! ### The steps -/
section
variable {i : Nat} {rest : Plan} {a : Act} {w : World} {l : List Oper} {S : World → Prop}
theorem planG_nil (h : Q .normal a w) : planG P md l.toArray Q H N .nil S a w := h

/-- An operation that yields v in whatever world: 'rfl' finds the operation, that it is none of 'now', that it is wanted. -/
theorem planG_take (o : Oper) (v : Value) (hN : N.contains i = false) (ho : l[i]? = some o) (hw : Region.wanted o (yielded l.toArray a.tmps) = true)
    (hH : H.contains i = false) (hy : ∀ w', (execOp a.eval o).run P w' = .ok (.value v) w') (h : planG P md l.toArray Q H N rest S (a.put o.dst v) w) : planG P md l.toArray Q H N (.one i rest) S a w := by
  unfold planG
  rw [hN]
  exact ⟨o, v, by simpa using ho, .inl ⟨hw, fun w' _ => hy w'⟩, fun hc => (by rw [hH] at hc; cases hc), h⟩

/-- In every world that meets S. -/
theorem planG_held (o : Oper) (v : Value) (hN : N.contains i = false) (ho : l[i]? = some o) (hw : Region.wanted o (yielded l.toArray a.tmps) = true)
    (hHi : H.contains i = true) (hS : S w) (hy : ∀ w', S w' → (execOp a.eval o).run P w' = .ok (.value v) w') (h : planG P md l.toArray Q H N rest S (a.put o.dst v) w) : planG P md l.toArray Q H N (.one i rest) S a w := by
  unfold planG
  rw [hN]
  exact ⟨o, v, by simpa using ho, .inl ⟨hw, fun w' hs => hy w' (hs hHi)⟩, fun _ => hS, h⟩

/-- An operation that its guard passes over. -/
theorem planG_skip (o : Oper) (ho : l[i]? = some o) (hw : Region.wanted o (yielded l.toArray a.tmps) = false)
    (hS : S w) (h : planG P md l.toArray Q H N rest S (a.put o.dst undef) w) : planG P md l.toArray Q H N (.one i rest) S a w := by
  unfold planG
  split
  · unfold wpOp
    rw [show l.toArray[i]? = some o from by simpa using ho]
    simp only [hw, Bool.false_eq_true, if_false]
    exact ⟨S, fun _ h => h, fun _ => hS, h⟩
  · exact ⟨o, undef, by simpa using ho, .inr ⟨hw, rfl⟩, fun _ => hS, h⟩

/-- One that is carried out when nothing else may come; S may be made narrower. -/
theorem planG_now (o : Oper) (hN : N.contains i = true) (ho : l[i]? = some o) (hw : Region.wanted o (yielded l.toArray a.tmps) = true)
    (h : ∀ K : Act → World → Prop, (∀ a' w' (S' : World → Prop), (∀ x, S' x → S x) → S' w' → planG P md l.toArray Q H N rest S' a' w' → K a' w') → o.wp P a w K Q) : planG P md l.toArray Q H N (.one i rest) S a w := by
  unfold planG
  rw [hN]
  unfold wpOp
  rw [show l.toArray[i]? = some o from by simpa using ho]
  simp only [hw, if_true]
  exact .inl (h _ fun a' w' S' h1 h2 h3 => ⟨S', h1, fun _ => h2, h3⟩)

/-- One behind which nothing leans on S, or that nothing leans on S can surely follow. -/
theorem planG_nowF (o : Oper) (hN : N.contains i = true) (ho : l[i]? = some o) (hw : Region.wanted o (yielded l.toArray a.tmps) = true) (hn : needS md l.toArray H i = false)
    (h : ∀ K : Act → World → Prop, (∀ a' w', planG P md l.toArray Q H N rest S a' w' → K a' w') → o.wp P a w K Q) : planG P md l.toArray Q H N (.one i rest) S a w := by
  unfold planG
  rw [hN]
  unfold wpOp
  rw [show l.toArray[i]? = some o from by simpa using ho]
  simp only [hw, if_true]
  exact .inl (h _ fun a' w' h3 => ⟨S, fun _ h => h, fun hc => (by rw [hn] at hc; cases hc), h3⟩)

theorem planG_two {p q : Plan} {j : Nat} (hi : N.contains i = true) (hj : N.contains j = true) (h1 : planG P md l.toArray Q H N (.one i p) S a w) (h2 : planG P md l.toArray Q H N (.one j q) S a w) : planG P md l.toArray Q H N (.two i p j q) S a w := by
  unfold planG at h1 h2 ⊢
  rw [hi] at h1
  rw [hj] at h2
  simp only [if_true] at h1 h2
  exact ⟨h1, h2⟩
end
end
end Go.Proofs.YtdbmffagibnibaaGreatDoor
