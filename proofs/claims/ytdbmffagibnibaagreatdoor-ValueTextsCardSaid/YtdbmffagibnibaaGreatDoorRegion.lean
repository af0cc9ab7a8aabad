/-
  A region that draws its order, walked once in a given order: operations that yield their value in whatever world, or in every world that meets S, are taken as soon as they may come; the others ('now') one by one, each when nothing else may come.
  S is asked behind a 'now' operation only where some operation that leans on S does not surely stand ahead of it. No program is named here.
-/
import Derived.OrdersHeld
import Derived.RegionTactic
import Derived.Deep.RegionHeld
namespace Go.Proofs.YtdbmffagibnibaaGreatDoor
section
variable {P : Program} {ops : Array Oper} {Q : Exit → Act → World → Prop} {md : Region.Mode} {H N : List Nat}

/-- Does operation j wait, by an edge of its own, for h? -/
def waitsOn (md : Region.Mode) (ops : Array Oper) (j h : Nat) : Bool :=
  match ops[j]? with
  | none => false
  | some o => o.after.any fun e => Region.binds md e && e.on == h

def needS (md : Region.Mode) (ops : Array Oper) (H : List Nat) (j : Nat) : Bool := H.any fun h => !waitsOn md ops j h

def askS (md : Region.Mode) (ops : Array Oper) (S S' : World → Prop) (H N : List Nat) (j : Nat) (w w' : World) : Prop :=
  (if N.contains j then needS md ops H j = true else S w) → S' w'

def wpAnyG (P : Program) (md : Region.Mode) (ops : Array Oper) (Q : Exit → Act → World → Prop) (H N : List Nat) : Nat → (World → Prop) → Array Bool → Act → World → Prop
  | 0, _, listed, a, w => Region.ready md ops listed = [] ∧ Q .normal a w
  | fuel + 1, S, listed, a, w =>
    (Region.ready md ops listed = [] → Q .normal a w) ∧
    ∀ i ∈ Region.ready md ops listed, wpOp P ops Q i (fun a' w' => ∃ S' : World → Prop, (∀ x, S' x → S x) ∧ askS md ops S S' H N i w w' ∧ wpAnyG P md ops Q H N fuel S' (listed.setIfInBounds i true) a' w') a w

theorem wpAny_of_G : ∀ (fuel : Nat) (S : World → Prop) (listed : Array Bool) (a : Act) (w : World), wpAnyG P md ops Q H N fuel S listed a w → wpAny P md ops Q fuel listed a w
  | 0, _, _, _, _, h => h
  | fuel + 1, _, _, _, _, h => ⟨h.1, fun i hi => wpOp_mono (fun a' w' ⟨S', _, _, h'⟩ => wpAny_of_G fuel S' _ a' w' h') (h.2 i hi)⟩

theorem waitsOn_false {j h : Nat} {oj : Oper} (hj : ops[j]? = some oj) (hn : ∀ e ∈ oj.after, Region.binds md e = true → e.on ≠ h) : waitsOn md ops j h = false := by
  unfold waitsOn
  rw [hj]
  simp only [Array.any_eq_false']
  intro e he hc
  simp only [Bool.and_eq_true, beq_iff_eq] at hc
  exact hn e he hc.1 hc.2

theorem wpAnyG_first {i : Nat} {oi : Oper} {v : Value} (hi : ops[i]? = some oi) (hN : N.contains i = false) (hsel : ∀ (j : Nat) (o : Oper) cs b, ops[j]? = some o → o.op ≠ .select cs b)
    (hQ : ∀ c a w, Q (.panic c) (a.put oi.dst v) w → Q (.panic c) a w) :
    ∀ (fuel : Nat) (S : World → Prop) (listed : Array Bool) (a : Act) (w : World),
      (∀ j oj, ops[j]? = some oj → j ≠ i → listed.getD j true = false → (∀ e ∈ oj.after, Region.binds md e = true → e.on ≠ i) → oi.apart ops oj = true) →
      i ∈ Region.ready md ops listed → YieldsIf P ops (fun w' => H.contains i = true → S w') oi v a → (H.contains i = true → S w) →
      wpAnyG P md ops Q H N fuel S (listed.setIfInBounds i true) (a.put oi.dst v) w → wpAnyG P md ops Q H N (fuel + 1) S listed a w := by
  intro fuel
  induction fuel with
  | zero =>
    intro S listed a w _ hr hy hS HH
    refine ⟨fun h => (by rw [h] at hr; cases hr), fun j hj => ?_⟩
    by_cases hji : j = i
    · subst hji; exact hy.wpOp hi hS ⟨S, fun _ h => h, by unfold askS; rw [hN]; exact fun h => h, HH⟩
    · have := ready_mono hj hji
      rw [HH.1] at this
      cases this
  | succ fuel ih =>
    intro S listed a w hfree hr hy hS HH
    refine ⟨fun h => (by rw [h] at hr; cases hr), fun j hj => ?_⟩
    by_cases hji : j = i
    · subst hji; exact hy.wpOp hi hS ⟨S, fun _ h => h, by unfold askS; rw [hN]; exact fun h => h, HH⟩
    · have h1 := HH.2 j (ready_mono hj hji)
      obtain ⟨hjun, oj, hoj, hall⟩ := mem_ready.1 hj
      have hnot : ∀ e ∈ oj.after, Region.binds md e = true → e.on ≠ i := fun e he hb heq => by
        have h1 := hall e he hb
        have h0 := (mem_ready.1 hr).1
        rw [heq] at h1
        rcases Nat.lt_or_ge i listed.size with h' | h'
        · simp [h'] at h0 h1; rw [h0] at h1; cases h1
        · simp [Array.getElem?_eq_none h'] at h1
      have h2 := wpOp_putIf hoj (hfree j oj hoj hji hjun hnot) (fun cs b => hsel i oi cs b hi) (fun cs b => hsel j oj cs b hoj) hQ hy h1
      have hfree' : ∀ k ok, ops[k]? = some ok → k ≠ i → (listed.setIfInBounds j true).getD k true = false →
          (∀ e ∈ ok.after, Region.binds md e = true → e.on ≠ i) → oi.apart ops ok = true := fun k ok hk hki hun hno => by
        refine hfree k ok hk hki ?_ hno
        by_cases hjk : j = k
        · subst hjk; exact hjun
        · rw [getD_set_ne true hjk] at hun; exact hun
      refine wpOp_mono (fun a' w' h3 => ?_) h2
      obtain ⟨hy', S', hsub, hask, hG⟩ := h3
      refine ⟨S', hsub, hask, ih S' (listed.setIfInBounds j true) a' w' hfree' (ready_mono hr (Ne.symm hji)) ?_ (fun hH => ?_) ?_⟩
      · exact hy'.imp (fun ⟨hw, hv⟩ => ⟨hw, fun x hx => hv x fun hH => hsub x (hx hH)⟩) id
      · refine hask ?_
        split
        · unfold needS
          rw [List.any_eq_true]
          exact ⟨i, by simpa using hH, by rw [waitsOn_false hoj hnot]; rfl⟩
        · exact hS hH
      · rw [Array.setIfInBounds_comm _ _ hji]
        exact hG

def readyAt (md : Region.Mode) (ops : Array Oper) (listed : Array Bool) (i : Nat) : Bool :=
  decide (i < ops.size) && !listed.getD i true && ((ops[i]?).map (·.after.all fun e => !Region.binds md e || listed.getD e.on false)).getD false

def lexOk (md : Region.Mode) (ops : Array Oper) (N : List Nat) : List Nat → Array Bool → Bool
  | [], listed => (Region.ready md ops listed).isEmpty
  | i :: rest, listed => readyAt md ops listed i && (if N.contains i then Region.ready md ops listed == [i] else Region.free md ops listed i) && lexOk md ops N rest (listed.setIfInBounds i true)

def lexG (P : Program) (md : Region.Mode) (ops : Array Oper) (Q : Exit → Act → World → Prop) (H N : List Nat) : List Nat → (World → Prop) → Act → World → Prop
  | [], _, a, w => Q .normal a w
  | i :: rest, S, a, w =>
    if N.contains i then wpOp P ops Q i (fun a' w' => ∃ S' : World → Prop, (∀ x, S' x → S x) ∧ (needS md ops H i = true → S' w') ∧ lexG P md ops Q H N rest S' a' w') a w
    else ∃ o v, ops[i]? = some o ∧ YieldsIf P ops (fun w' => H.contains i = true → S w') o v a ∧ (H.contains i = true → S w) ∧ lexG P md ops Q H N rest S (a.put o.dst v) w

theorem lex_sound (hsel : ∀ (j : Nat) (o : Oper) cs b, ops[j]? = some o → o.op ≠ .select cs b) (hQ : ∀ c a d v w, Q (.panic c) (a.put d v) w → Q (.panic c) a w) :
    ∀ (ord : List Nat) (S : World → Prop) (listed : Array Bool) (a : Act) (w : World), lexOk md ops N ord listed = true → lexG P md ops Q H N ord S a w → wpAnyG P md ops Q H N ord.length S listed a w
  | [], _, listed, a, w, hok, h => ⟨by simpa [lexOk] using hok, h⟩
  | i :: rest, S, listed, a, w, hok, h => by
    simp only [lexOk, Bool.and_eq_true] at hok
    obtain ⟨⟨hr, hk⟩, hrest⟩ := hok
    have hri : i ∈ Region.ready md ops listed := by
      unfold Region.ready
      simp only [readyAt, Bool.and_eq_true, decide_eq_true_eq] at hr
      rw [List.mem_filter, List.mem_range]
      exact ⟨hr.1.1, by rw [hr.2, hr.1.2]; rfl⟩
    unfold lexG at h
    cases hN : N.contains i with
    | true =>
      rw [hN] at h hk
      simp only [if_true, beq_iff_eq] at h hk
      refine ⟨fun h0 => (by rw [h0] at hk; cases hk), fun j hj => ?_⟩
      rw [hk] at hj
      obtain rfl : j = i := by simpa using hj
      exact wpOp_mono (fun a' w' ⟨S', hsub, hask, hl⟩ => ⟨S', hsub, by unfold askS; rw [hN]; exact hask, lex_sound hsel hQ rest S' _ a' w' hrest hl⟩) h
    | false =>
      rw [hN] at h hk
      simp only [Bool.false_eq_true, if_false] at h hk
      obtain ⟨o, v, ho, hy, hS, hl⟩ := h
      exact wpAnyG_first ho hN hsel (fun c a w => hQ c a o.dst v w) _ S listed a w (Region.free_spec ho hk) hri hy hS (lex_sound hsel hQ rest S _ _ w hrest hl)

theorem wp_region_lex {id : Nat} {a : Act} {w : World} {l : List Oper} (S : World → Prop) (H N ord : List Nat) (hm : P.follows .mixedOrders = true) (hlen : ord.length = l.toArray.size)
    (hs : Region.noSelect l.toArray = true) (hok : lexOk .any l.toArray N ord (Array.replicate l.toArray.size false) = true) (hQ : ∀ c a d v w, Q (.panic c) (a.put d v) w → Q (.panic c) a w)
    (h : lexG P .any l.toArray Q H N ord S a w.drew) : (Code.region id l.toArray true).wp P Q a w :=
  wp_region_any hm (wpAny_of_G _ S _ _ _ (hlen ▸ lex_sound (Region.noSelect_spec hs) hQ ord S _ a w.drew hok h))

/-! ### The steps -/
section
variable {i : Nat} {rest : List Nat} {a : Act} {w : World} {l : List Oper} {S : World → Prop}
theorem lexG_nil (h : Q .normal a w) : lexG P md l.toArray Q H N [] S a w := h

/-- An operation that yields v in whatever world: 'rfl' finds the operation, that it is none of 'now', that it is wanted. -/
theorem lexG_take (o : Oper) (v : Value) (hN : N.contains i = false) (ho : l[i]? = some o) (hw : Region.wanted o (yielded l.toArray a.tmps) = true)
    (hH : H.contains i = false) (hy : ∀ w', (execOp a.eval o).run P w' = .ok (.value v) w') (h : lexG P md l.toArray Q H N rest S (a.put o.dst v) w) : lexG P md l.toArray Q H N (i :: rest) S a w := by
  unfold lexG
  rw [hN]
  exact ⟨o, v, by simpa using ho, .inl ⟨hw, fun w' _ => hy w'⟩, fun hc => (by rw [hH] at hc; cases hc), h⟩

/-- In every world that meets S. -/
theorem lexG_held (o : Oper) (v : Value) (hN : N.contains i = false) (ho : l[i]? = some o) (hw : Region.wanted o (yielded l.toArray a.tmps) = true)
    (hHi : H.contains i = true) (hS : S w) (hy : ∀ w', S w' → (execOp a.eval o).run P w' = .ok (.value v) w') (h : lexG P md l.toArray Q H N rest S (a.put o.dst v) w) : lexG P md l.toArray Q H N (i :: rest) S a w := by
  unfold lexG
  rw [hN]
  exact ⟨o, v, by simpa using ho, .inl ⟨hw, fun w' hs => hy w' (hs hHi)⟩, fun _ => hS, h⟩

/-- An operation that its guard passes over. -/
theorem lexG_skip (o : Oper) (ho : l[i]? = some o) (hw : Region.wanted o (yielded l.toArray a.tmps) = false)
    (hS : S w) (h : lexG P md l.toArray Q H N rest S (a.put o.dst undef) w) : lexG P md l.toArray Q H N (i :: rest) S a w := by
  unfold lexG
  split
  · unfold wpOp
    rw [show l.toArray[i]? = some o from by simpa using ho]
    simp only [hw, Bool.false_eq_true, if_false]
    exact ⟨S, fun _ h => h, fun _ => hS, h⟩
  · exact ⟨o, undef, by simpa using ho, .inr ⟨hw, rfl⟩, fun _ => hS, h⟩

/-- One that is carried out when nothing else may come; S may be made narrower. -/
theorem lexG_now (o : Oper) (hN : N.contains i = true) (ho : l[i]? = some o) (hw : Region.wanted o (yielded l.toArray a.tmps) = true)
    (h : ∀ K : Act → World → Prop, (∀ a' w' (S' : World → Prop), (∀ x, S' x → S x) → S' w' → lexG P md l.toArray Q H N rest S' a' w' → K a' w') → o.wp P a w K Q) : lexG P md l.toArray Q H N (i :: rest) S a w := by
  unfold lexG
  rw [hN]
  unfold wpOp
  rw [show l.toArray[i]? = some o from by simpa using ho]
  simp only [hw, if_true]
  exact .inl (h _ fun a' w' S' h1 h2 h3 => ⟨S', h1, fun _ => h2, h3⟩)

/-- One behind which nothing leans on S, or that nothing leans on S can surely follow. -/
theorem lexG_nowF (o : Oper) (hN : N.contains i = true) (ho : l[i]? = some o) (hw : Region.wanted o (yielded l.toArray a.tmps) = true) (hn : needS md l.toArray H i = false)
    (h : ∀ K : Act → World → Prop, (∀ a' w', lexG P md l.toArray Q H N rest S a' w' → K a' w') → o.wp P a w K Q) : lexG P md l.toArray Q H N (i :: rest) S a w := by
  unfold lexG
  rw [hN]
  unfold wpOp
  rw [show l.toArray[i]? = some o from by simpa using ho]
  simp only [hw, if_true]
  exact .inl (h _ fun a' w' h3 => ⟨S, fun _ h => h, fun hc => (by rw [hn] at hc; cases hc), h3⟩)
end
end
end Go.Proofs.YtdbmffagibnibaaGreatDoor
