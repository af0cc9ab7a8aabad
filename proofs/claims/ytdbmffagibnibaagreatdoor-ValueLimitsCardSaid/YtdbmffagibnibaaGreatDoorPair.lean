/-
  A region that draws its order, in which behind some reads two operations may come in either order: the law of XRegion with two ways on.
-/
import Derived.Test.YtdbmffagibnibaaGreatDoorRegion
set_option linter.unusedSimpArgs false
set_option linter.unusedVariables false
namespace Go.Proofs.YtdbmffagibnibaaGreatDoor
set_option maxRecDepth 100000
section
variable {P : Program} {ops : Array Oper} {Q : Exit → Act → World → Prop} {md : Region.Mode} {H N : List Nat}

def preOk (md : Region.Mode) (ops : Array Oper) (N : List Nat) : List Nat → Array Bool → Bool
  | [], _ => true
  | i :: rest, listed => readyAt md ops listed i && (!N.contains i && Region.free md ops listed i) && preOk md ops N rest (listed.setIfInBounds i true)

def preSet : List Nat → Array Bool → Array Bool
  | [], listed => listed
  | i :: rest, listed => preSet rest (listed.setIfInBounds i true)

theorem ready_of_at {i : Nat} {listed : Array Bool} (hr : readyAt md ops listed i = true) : i ∈ Region.ready md ops listed := by
  unfold Region.ready
  simp only [readyAt, Bool.and_eq_true, decide_eq_true_eq] at hr
  rw [List.mem_filter, List.mem_range]
  exact ⟨hr.1.1, by rw [hr.2, hr.1.2]; rfl⟩

theorem pre_sound (hsel : ∀ (j : Nat) (o : Oper) cs b, ops[j]? = some o → o.op ≠ .select cs b) (hQ : ∀ c a d v w, Q (.panic c) (a.put d v) w → Q (.panic c) a w) (n : Nat) (R : Act → World → Prop) :
    ∀ (pre : List Nat) (S : World → Prop) (listed : Array Bool) (a : Act) (w : World), preOk md ops N pre listed = true → (∀ a' w', R a' w' → wpAnyG P md ops Q H N n S (preSet pre listed) a' w') → lexG P md ops (fun _ a' w' => R a' w') H N pre S a w → wpAnyG P md ops Q H N (pre.length + n) S listed a w
  | [], S, listed, a, w, _, hR, h => by
    rw [List.length_nil, Nat.zero_add]
    exact hR a w h
  | i :: rest, S, listed, a, w, hok, hR, h => by
    simp only [preOk, Bool.and_eq_true, Bool.not_eq_true'] at hok
    obtain ⟨⟨hr, hN, hk⟩, hrest⟩ := hok
    unfold lexG at h
    rw [hN] at h
    simp only [Bool.false_eq_true, if_false] at h
    obtain ⟨o, v, ho, hy, hS, hl⟩ := h
    have e : (i :: rest).length + n = (rest.length + n) + 1 := by rw [List.length_cons]; omega
    rw [e]
    exact wpAnyG_first ho hN hsel (fun c a w => hQ c a o.dst v w) _ S listed a w (Region.free_spec ho hk) (ready_of_at hr) hy hS (pre_sound hsel hQ n R rest S _ _ w hrest hR hl)

theorem pair_sound (hsel : ∀ (j : Nat) (o : Oper) cs b, ops[j]? = some o → o.op ≠ .select cs b) (hQ : ∀ c a d v w, Q (.panic c) (a.put d v) w → Q (.panic c) a w) {i j : Nat} {p1 p2 : List Nat} {S : World → Prop} {listed : Array Bool} {a : Act} {w : World}
    (hr : Region.ready md ops listed = [i, j]) (hi : N.contains i = true) (hj : N.contains j = true) (hl : p2.length = p1.length) (ok1 : lexOk md ops N p1 (listed.setIfInBounds i true) = true) (ok2 : lexOk md ops N p2 (listed.setIfInBounds j true) = true)
    (h1 : lexG P md ops Q H N (i :: p1) S a w) (h2 : lexG P md ops Q H N (j :: p2) S a w) : wpAnyG P md ops Q H N (p1.length + 1) S listed a w := by
  unfold lexG at h1 h2
  rw [hi] at h1
  rw [hj] at h2
  simp only [if_true] at h1 h2
  refine ⟨fun h0 => (by rw [h0] at hr; cases hr), fun k hk => ?_⟩
  rw [hr] at hk
  simp only [List.mem_cons, List.not_mem_nil, or_false] at hk
  rcases hk with rfl | rfl
  · exact wpOp_mono (fun a' w' ⟨S', hsub, hask, hl⟩ => ⟨S', hsub, by unfold askS; rw [hi]; exact hask, lex_sound hsel hQ p1 S' _ a' w' ok1 hl⟩) h1
  · refine wpOp_mono (fun a' w' ⟨S', hsub, hask, hl2⟩ => ⟨S', hsub, by unfold askS; rw [hj]; exact hask, ?_⟩) h2
    have := lex_sound hsel hQ p2 S' _ a' w' ok2 hl2
    rw [hl] at this
    exact this

theorem wp_region_pair {id : Nat} {a : Act} {w : World} {l : List Oper} (S : World → Prop) (H N pre : List Nat) (i j : Nat) (p1 p2 : List Nat) (hm : P.follows .mixedOrders = true) (hlen : pre.length + (p1.length + 1) = l.toArray.size) (hl : p2.length = p1.length)
    (hs : Region.noSelect l.toArray = true) (hpre : preOk .any l.toArray N pre (Array.replicate l.toArray.size false) = true) (hr : (Region.ready .any l.toArray (preSet pre (Array.replicate l.toArray.size false)) == [i, j]) = true) (hi : N.contains i = true) (hj : N.contains j = true)
    (ok1 : lexOk .any l.toArray N p1 ((preSet pre (Array.replicate l.toArray.size false)).setIfInBounds i true) = true) (ok2 : lexOk .any l.toArray N p2 ((preSet pre (Array.replicate l.toArray.size false)).setIfInBounds j true) = true) (hQ : ∀ c a d v w, Q (.panic c) (a.put d v) w → Q (.panic c) a w)
    (h : lexG P .any l.toArray (fun _ a' w' => lexG P .any l.toArray Q H N (i :: p1) S a' w' ∧ lexG P .any l.toArray Q H N (j :: p2) S a' w') H N pre S a w.drew) : (Code.region id l.toArray true).wp P Q a w :=
  wp_region_any hm (wpAny_of_G _ S _ _ _ (hlen ▸ pre_sound (Region.noSelect_spec hs) hQ (p1.length + 1) (fun a' w' => lexG P .any l.toArray Q H N (i :: p1) S a' w' ∧ lexG P .any l.toArray Q H N (j :: p2) S a' w') pre S _ a w.drew hpre
    (fun _ _ hR => pair_sound (Region.noSelect_spec hs) hQ (by simpa using hr) hi hj hl ok1 ok2 hR.1 hR.2) h))
end
end Go.Proofs.YtdbmffagibnibaaGreatDoor
