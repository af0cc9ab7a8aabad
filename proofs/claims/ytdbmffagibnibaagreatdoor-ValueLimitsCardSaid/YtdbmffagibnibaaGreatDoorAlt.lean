/-
  A region that draws its order, in which at some places any number of operations may come next: XRegion's law along a plan. 'alt i p q': i may come next, then p; or what q begins with.
-/
import Derived.Test.YtdbmffagibnibaaGreatDoorPlan
namespace Go.Proofs.YtdbmffagibnibaaGreatDoor

inductive Alts where
  | nil
  | one (i : Nat) (p : Alts)
  | alt (i : Nat) (p q : Alts)
def Alts.len : Alts → Nat
  | .nil => 0
  | .one _ p => p.len + 1
  | .alt _ p _ => p.len + 1
def Alts.even : Alts → Bool
  | .nil => true
  | .one _ p => p.even
  | .alt _ p q => p.even && q.even && q.len == p.len + 1
def Alts.heads : Alts → List Nat
  | .nil => []
  | .one i _ => [i]
  | .alt i _ q => i :: q.heads

section
variable {P : Program} {ops : Array Oper} {Q : Exit → Act → World → Prop} {md : Region.Mode} {H N : List Nat}

/-- 'f': the plan stands behind an 'alt': what is ready is looked at there. -/
def altOk (md : Region.Mode) (ops : Array Oper) (N : List Nat) : Bool → Alts → Array Bool → Bool
  | f, .nil, listed => !f && (Region.ready md ops listed).isEmpty
  | f, .one i p, listed => readyAt md ops listed i && (if N.contains i then f || Region.ready md ops listed == [i] else !f && Region.free md ops listed i) && altOk md ops N false p (listed.setIfInBounds i true)
  | f, .alt i p q, listed => N.contains i && (f || Region.ready md ops listed == (Alts.alt i p q).heads) && altOk md ops N false p (listed.setIfInBounds i true) && altOk md ops N true q listed

def altG (P : Program) (md : Region.Mode) (ops : Array Oper) (Q : Exit → Act → World → Prop) (H N : List Nat) : Alts → (World → Prop) → Act → World → Prop
  | .nil, _, a, w => Q .normal a w
  | .one i p, S, a, w =>
    if N.contains i then wpOp P ops Q i (fun a' w' => ∃ S' : World → Prop, (∀ x, S' x → S x) ∧ (needS md ops H i = true → S' w') ∧ altG P md ops Q H N p S' a' w') a w
    else ∃ o v, ops[i]? = some o ∧ YieldsIf P ops (fun w' => H.contains i = true → S w') o v a ∧ (H.contains i = true → S w) ∧ altG P md ops Q H N p S (a.put o.dst v) w
  | .alt i p q, S, a, w =>
    wpOp P ops Q i (fun a' w' => ∃ S' : World → Prop, (∀ x, S' x → S x) ∧ (needS md ops H i = true → S' w') ∧ altG P md ops Q H N p S' a' w') a w ∧ altG P md ops Q H N q S a w

theorem alt_both (hsel : ∀ (j : Nat) (o : Oper) cs b, ops[j]? = some o → o.op ≠ .select cs b) (hQ : ∀ c a d v w, Q (.panic c) (a.put d v) w → Q (.panic c) a w) :
    ∀ (p : Alts) (S : World → Prop) (listed : Array Bool) (a : Act) (w : World), p.even = true → altG P md ops Q H N p S a w →
      (altOk md ops N false p listed = true → wpAnyG P md ops Q H N p.len S listed a w) ∧
      (altOk md ops N true p listed = true → ∀ k ∈ p.heads, wpOp P ops Q k (fun a' w' => ∃ S' : World → Prop, (∀ x, S' x → S x) ∧ askS md ops S S' H N k w w' ∧ wpAnyG P md ops Q H N (p.len - 1) S' (listed.setIfInBounds k true) a' w') a w)
  | .nil, S, listed, a, w, _, h => by
    refine ⟨fun hok => ?_, fun hok => ?_⟩
    · simp only [altOk, Bool.and_eq_true] at hok
      exact ⟨by simpa using hok.2, h⟩
    · simp [altOk] at hok
  | .one i p, S, listed, a, w, hev, h => by
    have ih := fun S' a' w' hg => alt_both hsel hQ p S' (listed.setIfInBounds i true) a' w' hev hg
    cases hN : N.contains i with
    | true =>
      unfold altG at h
      rw [hN] at h
      simp only [if_true] at h
      have step : altOk md ops N false p (listed.setIfInBounds i true) = true → wpOp P ops Q i (fun a' w' => ∃ S' : World → Prop, (∀ x, S' x → S x) ∧ askS md ops S S' H N i w w' ∧ wpAnyG P md ops Q H N p.len S' (listed.setIfInBounds i true) a' w') a w := fun hrest =>
        wpOp_mono (fun a' w' ⟨S', hsub, hask, hl⟩ => ⟨S', hsub, by unfold askS; rw [hN]; exact hask, (ih S' a' w' hl).1 hrest⟩) h
      refine ⟨fun hok => ?_, fun hok => ?_⟩
      · simp only [altOk, Bool.and_eq_true, hN, if_true, Bool.false_or, beq_iff_eq] at hok
        obtain ⟨⟨hr, hk⟩, hrest⟩ := hok
        refine ⟨fun h0 => (by rw [h0] at hk; cases hk), fun j hj => ?_⟩
        rw [hk] at hj
        obtain rfl : j = i := by simpa using hj
        exact step hrest
      · simp only [altOk, Bool.and_eq_true] at hok
        intro k hk
        obtain rfl : k = i := by simpa [Alts.heads] using hk
        exact step hok.2
    | false =>
      refine ⟨fun hok => ?_, fun hok => ?_⟩
      · simp only [altOk, Bool.and_eq_true, hN, Bool.false_eq_true, if_false] at hok
        obtain ⟨⟨hr, -, hk⟩, hrest⟩ := hok
        unfold altG at h
        rw [hN] at h
        simp only [Bool.false_eq_true, if_false] at h
        obtain ⟨o, v, ho, hy, hS, hl⟩ := h
        exact wpAnyG_first ho hN hsel (fun c a w => hQ c a o.dst v w) _ S listed a w (Region.free_spec ho hk) (ready_of_at hr) hy hS ((ih S _ w hl).1 hrest)
      · rw [altOk, hN] at hok
        simp at hok
  | .alt i p q, S, listed, a, w, hev, h => by
    simp only [Alts.even, Bool.and_eq_true, beq_iff_eq] at hev
    obtain ⟨⟨ev1, ev2⟩, hlen⟩ := hev
    have ih := fun S' a' w' hg => alt_both hsel hQ p S' (listed.setIfInBounds i true) a' w' ev1 hg
    unfold altG at h
    have ihq := alt_both hsel hQ q S listed a w ev2 h.2
    have all : N.contains i = true → altOk md ops N false p (listed.setIfInBounds i true) = true → altOk md ops N true q listed = true → ∀ k ∈ (Alts.alt i p q).heads, wpOp P ops Q k (fun a' w' => ∃ S' : World → Prop, (∀ x, S' x → S x) ∧ askS md ops S S' H N k w w' ∧ wpAnyG P md ops Q H N p.len S' (listed.setIfInBounds k true) a' w') a w := by
      intro hN hp hq k hk
      rcases List.mem_cons.1 (show k ∈ i :: q.heads from hk) with rfl | hk
      · exact wpOp_mono (fun a' w' ⟨S', hsub, hask, hl⟩ => ⟨S', hsub, by unfold askS; rw [hN]; exact hask, (ih S' a' w' hl).1 hp⟩) h.1
      · have h2 := ihq.2 hq k hk
        rw [hlen] at h2
        exact h2
    refine ⟨fun hok => ?_, fun hok => ?_⟩
    · simp only [altOk, Bool.and_eq_true, Bool.false_or, beq_iff_eq] at hok
      obtain ⟨⟨⟨hi, hr⟩, ok1⟩, ok2⟩ := hok
      refine ⟨fun h0 => (by rw [h0] at hr; cases hr), fun k hk => ?_⟩
      rw [hr] at hk
      exact all hi ok1 ok2 k hk
    · simp only [altOk, Bool.and_eq_true] at hok
      obtain ⟨⟨⟨hi, -⟩, ok1⟩, ok2⟩ := hok
      exact all hi ok1 ok2

theorem wp_region_alts {id : Nat} {a : Act} {w : World} {l : List Oper} (S : World → Prop) (H N : List Nat) (p : Alts) (hm : P.follows .mixedOrders = true) (hlen : p.len = l.toArray.size) (hev : p.even = true)
    (hs : Region.noSelect l.toArray = true) (hok : altOk .any l.toArray N false p (Array.replicate l.toArray.size false) = true) (hQ : ∀ c a d v w, Q (.panic c) (a.put d v) w → Q (.panic c) a w)
    (h : altG P .any l.toArray Q H N p S a w.drew) : (Code.region id l.toArray true).wp P Q a w :=
  wp_region_any hm (wpAny_of_G _ S _ _ _ (hlen ▸ (alt_both (Region.noSelect_spec hs) hQ p S _ a w.drew hev h).1 hok))

/-! ### The steps -/
section
variable {i : Nat} {rest : Alts} {a : Act} {w : World} {l : List Oper} {S : World → Prop}
theorem altG_nil (h : Q .normal a w) : altG P md l.toArray Q H N .nil S a w := h
theorem altG_take (o : Oper) (v : Value) (hN : N.contains i = false) (ho : l[i]? = some o) (hw : Region.wanted o (yielded l.toArray a.tmps) = true)
    (hH : H.contains i = false) (hy : ∀ w', (execOp a.eval o).run P w' = .ok (.value v) w') (h : altG P md l.toArray Q H N rest S (a.put o.dst v) w) : altG P md l.toArray Q H N (.one i rest) S a w := by
  unfold altG
  rw [hN]
  exact ⟨o, v, by simpa using ho, .inl ⟨hw, fun w' _ => hy w'⟩, fun hc => (by rw [hH] at hc; cases hc), h⟩
theorem altG_held (o : Oper) (v : Value) (hN : N.contains i = false) (ho : l[i]? = some o) (hw : Region.wanted o (yielded l.toArray a.tmps) = true)
    (hHi : H.contains i = true) (hS : S w) (hy : ∀ w', S w' → (execOp a.eval o).run P w' = .ok (.value v) w') (h : altG P md l.toArray Q H N rest S (a.put o.dst v) w) : altG P md l.toArray Q H N (.one i rest) S a w := by
  unfold altG
  rw [hN]
  exact ⟨o, v, by simpa using ho, .inl ⟨hw, fun w' hs => hy w' (hs hHi)⟩, fun _ => hS, h⟩
theorem altG_skip (o : Oper) (ho : l[i]? = some o) (hw : Region.wanted o (yielded l.toArray a.tmps) = false)
    (hS : S w) (h : altG P md l.toArray Q H N rest S (a.put o.dst undef) w) : altG P md l.toArray Q H N (.one i rest) S a w := by
  unfold altG
  split
  · unfold wpOp
    rw [show l.toArray[i]? = some o from by simpa using ho]
    simp only [hw, Bool.false_eq_true, if_false]
    exact ⟨S, fun _ h => h, fun _ => hS, h⟩
  · exact ⟨o, undef, by simpa using ho, .inr ⟨hw, rfl⟩, fun _ => hS, h⟩
theorem altG_now (o : Oper) (hN : N.contains i = true) (ho : l[i]? = some o) (hw : Region.wanted o (yielded l.toArray a.tmps) = true)
    (h : ∀ K : Act → World → Prop, (∀ a' w' (S' : World → Prop), (∀ x, S' x → S x) → S' w' → altG P md l.toArray Q H N rest S' a' w' → K a' w') → o.wp P a w K Q) : altG P md l.toArray Q H N (.one i rest) S a w := by
  unfold altG
  rw [hN]
  unfold wpOp
  rw [show l.toArray[i]? = some o from by simpa using ho]
  simp only [hw, if_true]
  exact .inl (h _ fun a' w' S' h1 h2 h3 => ⟨S', h1, fun _ => h2, h3⟩)
theorem altG_nowF (o : Oper) (hN : N.contains i = true) (ho : l[i]? = some o) (hw : Region.wanted o (yielded l.toArray a.tmps) = true) (hn : needS md l.toArray H i = false)
    (h : ∀ K : Act → World → Prop, (∀ a' w', altG P md l.toArray Q H N rest S a' w' → K a' w') → o.wp P a w K Q) : altG P md l.toArray Q H N (.one i rest) S a w := by
  unfold altG
  rw [hN]
  unfold wpOp
  rw [show l.toArray[i]? = some o from by simpa using ho]
  simp only [hw, if_true]
  exact .inl (h _ fun a' w' h3 => ⟨S, fun _ h => h, fun hc => (by rw [hn] at hc; cases hc), h3⟩)
theorem altG_alt {p q : Alts} (hi : N.contains i = true) (h1 : altG P md l.toArray Q H N (.one i p) S a w) (h2 : altG P md l.toArray Q H N q S a w) : altG P md l.toArray Q H N (.alt i p q) S a w := by
  unfold altG at h1
  rw [hi] at h1
  simp only [if_true] at h1
  unfold altG
  exact ⟨h1, h2⟩
end
end
end Go.Proofs.YtdbmffagibnibaaGreatDoor
