/- What the two readings have to do with one another; wire.Read and choirref3.Read tell the same. -/
import Derived.Test.YtafogjonicdbmaaRefReadL
import Derived.Test.YtafogjonicdbmaaWireDeep
namespace Go.Proofs.Ytafogjonicdbmaa
open Go.RowKit

/-! ### plain -/
theorem pl_facts {p : List UInt8 → Option (Val × Nat)} {d : Int} (hp : ∀ b v m, p b = some (v, m) → sizeV v = m ∧ strangeV v = false ∧ greatV v d = false) : ∀ n b l m, pl p n b = some (l, m) → sizeL l = m ∧ strangeL l = false ∧ greatL l d = false ∧ l.length = n := by
  intro n
  induction n with
  | zero =>
    intro b l m h
    simp only [pl, Option.some.injEq, Prod.mk.injEq] at h
    obtain ⟨rfl, rfl⟩ := h
    exact ⟨rfl, rfl, rfl, rfl⟩
  | succ n ih =>
    intro b l m h
    rw [pl] at h
    split at h
    · cases h
    · rename_i v m1 hv
      split at h
      · cases h
      · rename_i l1 m2 hl
        simp only [Option.some.injEq, Prod.mk.injEq] at h
        obtain ⟨rfl, rfl⟩ := h
        obtain ⟨a1, a2, a3⟩ := hp _ _ _ hv
        obtain ⟨b1, b2, b3, b4⟩ := ih _ _ _ hl
        exact ⟨by show sizeV v + sizeL l1 = m1 + m2; rw [a1, b1], by show (strangeV v || strangeL l1) = false; rw [a2, b2]; rfl, by show (greatV v d || greatL l1 d) = false; rw [a3, b3]; rfl, by rw [List.length_cons, b4]⟩

theorem readT_facts (b : List UInt8) (h : (readT b 256).2.2 = 0) : (readT b 256).1.length ≤ 256 ∧ (readT b 256).2.1 = 2 + (readT b 256).1.length := by
  unfold readT at *
  split at h
  · rename_i hc
    rw [if_pos hc]
    dsimp only
    rw [List.length_take, List.length_drop]
    omega
  · cases h

theorem pv_facts : ∀ (d : Nat) (b : List UInt8) (v : Val) (m : Nat), pv d b = some (v, m) → sizeV v = m ∧ strangeV v = false ∧ greatV v (d : Int) = false := by
  intro d
  induction d with
  | zero =>
    intro b v m h
    cases b with
    | nil => simp [pv] at h
    | cons k t =>
      rw [pv_cons] at h
      split at h
      · simp only [Option.some.injEq, Prod.mk.injEq] at h; obtain ⟨rfl, rfl⟩ := h; exact ⟨rfl, rfl, rfl⟩
      split at h
      · split at h
        · cases h
        · simp only [Option.some.injEq, Prod.mk.injEq] at h; obtain ⟨rfl, rfl⟩ := h; exact ⟨rfl, rfl, rfl⟩
      split at h
      · split at h
        · cases h
        · split at h
          · simp only [Option.some.injEq, Prod.mk.injEq] at h; obtain ⟨rfl, rfl⟩ := h; exact ⟨rfl, rfl, rfl⟩
          · cases h
      split at h
      · split at h
        · rename_i h0
          simp only [Option.some.injEq, Prod.mk.injEq] at h
          obtain ⟨rfl, rfl⟩ := h
          obtain ⟨a1, a2⟩ := readT_facts t h0
          refine ⟨?_, rfl, ?_⟩
          · show 3 + (readT t 256).1.length = 1 + (readT t 256).2.1
            omega
          · show decide (256 < (readT t 256).1.length) = false
            rw [decide_eq_false (by omega)]
        · cases h
      split at h
      · cases h
      · cases h
  | succ d ih =>
    intro b v m h
    cases b with
    | nil => simp [pv] at h
    | cons k t =>
      rw [pv_cons] at h
      split at h
      · simp only [Option.some.injEq, Prod.mk.injEq] at h; obtain ⟨rfl, rfl⟩ := h; exact ⟨rfl, rfl, rfl⟩
      split at h
      · split at h
        · cases h
        · simp only [Option.some.injEq, Prod.mk.injEq] at h; obtain ⟨rfl, rfl⟩ := h; exact ⟨rfl, rfl, rfl⟩
      split at h
      · split at h
        · cases h
        · split at h
          · simp only [Option.some.injEq, Prod.mk.injEq] at h; obtain ⟨rfl, rfl⟩ := h; exact ⟨rfl, rfl, rfl⟩
          · cases h
      split at h
      · split at h
        · rename_i h0
          simp only [Option.some.injEq, Prod.mk.injEq] at h
          obtain ⟨rfl, rfl⟩ := h
          obtain ⟨a1, a2⟩ := readT_facts t h0
          refine ⟨?_, rfl, ?_⟩
          · show 3 + (readT t 256).1.length = 1 + (readT t 256).2.1
            omega
          · show decide (256 < (readT t 256).1.length) = false
            rw [decide_eq_false (by omega)]
        · cases h
      split at h
      · cases t with
        | nil => cases h
        | cons n u =>
          dsimp only at h
          split at h
          · cases h
          · rename_i h64
            cases hp : pl (pv d) n.toNat u with
            | none => rw [hp] at h; cases h
            | some x =>
              obtain ⟨l, m1⟩ := x
              rw [hp] at h
              simp only [Option.some.injEq, Prod.mk.injEq] at h
              obtain ⟨rfl, rfl⟩ := h
              obtain ⟨b1, b2, b3, b4⟩ := pl_facts ih _ _ _ _ hp
              refine ⟨?_, ?_, ?_⟩
              · show 2 + sizeL l = 2 + m1
                rw [b1]
              · show (decide ((4 : Int) < 0 ∨ (4 : Int) < 4) || ((4 : Int) == 4 && strangeL l)) = false
                rw [b2]; rfl
              · show (decide (64 < l.length) || decide (((d + 1 : Nat) : Int) < 1) || greatL l (((d + 1 : Nat) : Int) - 1)) = false
                rw [show (((d + 1 : Nat) : Int) - 1) = (d : Int) by omega, b3, decide_eq_false (by omega), decide_eq_false (by omega)]
                rfl
      · cases h

theorem pv_check {b : List UInt8} {v : Val} {m : Nat} (h : pv 8 b = some (v, m)) (hm : m ≤ 4096) : checkV v = 0 ∧ sizeV v ≤ 1000000000 := by
  obtain ⟨h1, h2, h3⟩ := pv_facts 8 b v m h
  have h3' : greatV v 8 = false := h3
  unfold checkV
  rw [h2, h3', h1]
  refine ⟨?_, by omega⟩
  rw [decide_eq_false (by omega)]
  rfl

/-- A list's items, read in the two ways. -/
theorem pl_two {p q : List UInt8 → Option (Val × Nat)} {d : Int} (hpq : ∀ b, (∀ v m, p b = some (v, m) → q b = some (v, m)) ∧ (p b = none → q b = none ∨ ∃ v m, q b = some (v, m) ∧ greatV v d = true)) : ∀ n b, (∀ l m, pl p n b = some (l, m) → pl q n b = some (l, m)) ∧ (pl p n b = none → pl q n b = none ∨ ∃ l m, pl q n b = some (l, m) ∧ greatL l d = true) := by
  intro n
  induction n with
  | zero => intro b; exact ⟨fun l m h => h, fun h => by simp [pl] at h⟩
  | succ n ih =>
    intro b
    obtain ⟨h1, h2⟩ := hpq b
    cases hp : p b with
    | none =>
      refine ⟨fun l m h => ?_, fun _ => ?_⟩
      · rw [pl, hp] at h; cases h
      · rcases h2 hp with hq | ⟨v, m, hq, hg⟩
        · left; rw [pl, hq]
        · cases hr : pl q n (b.drop m) with
          | none => left; rw [pl, hq]; simp only [hr]
          | some x =>
            right
            refine ⟨v :: x.1, m + x.2, ?_, ?_⟩
            · rw [pl, hq]; simp only [hr]
            · show (greatV v d || greatL x.1 d) = true
              rw [hg]; rfl
    | some x =>
      obtain ⟨v, m⟩ := x
      have hq := h1 v m hp
      obtain ⟨i1, i2⟩ := ih (b.drop m)
      refine ⟨fun l m2 h => ?_, fun h => ?_⟩
      · rw [pl, hp] at h
        rw [pl, hq]
        cases hr : pl p n (b.drop m) with
        | none => simp only [hr] at h; cases h
        | some y =>
          simp only [hr] at h
          have := i1 y.1 y.2 hr
          simp only [this]
          exact h
      · rw [pl, hp] at h
        cases hr : pl p n (b.drop m) with
        | some y => simp only [hr] at h; cases h
        | none =>
          rcases i2 hr with hn | ⟨l, m2, hs, hg⟩
          · left; rw [pl, hq]; simp only [hn]
          · right
            refine ⟨v :: l, m + m2, ?_, ?_⟩
            · rw [pl, hq]; simp only [hs]
            · show (greatV v d || greatL l d) = true
              rw [hg, Bool.or_true]

theorem pv_two : ∀ (d : Nat) (b : List UInt8), (∀ v m, pv d b = some (v, m) → pvE (d + 1) b = some (v, m)) ∧ (pv d b = none → pvE (d + 1) b = none ∨ ∃ v m, pvE (d + 1) b = some (v, m) ∧ greatV v (d : Int) = true) := by
  intro d
  induction d with
  | zero =>
    intro b
    cases b with
    | nil => exact ⟨fun v m h => by simp [pv] at h, fun _ => .inl rfl⟩
    | cons k t =>
      rw [pv_cons, pvE_cons]
      by_cases h0 : k.toNat = 0
      · simp only [if_pos h0]; exact ⟨fun v m h => h, fun h => by cases h⟩
      by_cases h1 : k.toNat = 1
      · simp only [if_neg h0, if_pos h1]; exact ⟨fun v m h => h, fun h => .inl h⟩
      by_cases h2 : k.toNat = 2
      · simp only [if_neg h0, if_neg h1, if_pos h2]; exact ⟨fun v m h => h, fun h => .inl h⟩
      by_cases h3 : k.toNat = 3
      · simp only [if_neg h0, if_neg h1, if_neg h2, if_pos h3]; exact ⟨fun v m h => h, fun h => .inl h⟩
      by_cases h4 : k.toNat = 4
      · simp only [if_neg h0, if_neg h1, if_neg h2, if_neg h3, if_pos h4]
        refine ⟨fun v m h => (nomatch h), fun _ => ?_⟩
        cases t with
        | nil => exact .inl rfl
        | cons n u =>
          dsimp only
          by_cases h64 : 64 < n.toNat
          · rw [if_pos h64]; exact .inl rfl
          · rw [if_neg h64]
            cases pl (pvE 0) n.toNat u with
            | none => exact .inl rfl
            | some x => exact .inr ⟨_, _, rfl, by show (decide (64 < x.1.length) || decide (((0 : Nat) : Int) < 1) || greatL x.1 (((0 : Nat) : Int) - 1)) = true; simp⟩
      · simp only [if_neg h0, if_neg h1, if_neg h2, if_neg h3, if_neg h4]; exact ⟨fun v m h => h, fun h => .inl h⟩
  | succ d ih =>
    intro b
    cases b with
    | nil => exact ⟨fun v m h => by simp [pv] at h, fun _ => .inl rfl⟩
    | cons k t =>
      rw [pv_cons, pvE_cons]
      by_cases h0 : k.toNat = 0
      · simp only [if_pos h0]; exact ⟨fun v m h => h, fun h => by cases h⟩
      by_cases h1 : k.toNat = 1
      · simp only [if_neg h0, if_pos h1]; exact ⟨fun v m h => h, fun h => .inl h⟩
      by_cases h2 : k.toNat = 2
      · simp only [if_neg h0, if_neg h1, if_pos h2]; exact ⟨fun v m h => h, fun h => .inl h⟩
      by_cases h3 : k.toNat = 3
      · simp only [if_neg h0, if_neg h1, if_neg h2, if_pos h3]; exact ⟨fun v m h => h, fun h => .inl h⟩
      by_cases h4 : k.toNat = 4
      · simp only [if_neg h0, if_neg h1, if_neg h2, if_neg h3, if_pos h4]
        cases t with
        | nil => exact ⟨fun v m h => h, fun _ => .inl rfl⟩
        | cons n u =>
          dsimp only
          by_cases h64 : 64 < n.toNat
          · simp only [if_pos h64]; exact ⟨fun v m h => h, fun _ => .inl trivial⟩
          · simp only [if_neg h64]
            obtain ⟨i1, i2⟩ := pl_two ih n.toNat u
            cases hp : pl (pv d) n.toNat u with
            | some x =>
              obtain ⟨l, m⟩ := x
              rw [i1 l m hp]
              exact ⟨fun v m h => h, fun h => nomatch h⟩
            | none =>
              refine ⟨fun v m h => (nomatch h), fun _ => ?_⟩
              rcases i2 hp with hn | ⟨l, m, hs, hg⟩
              · rw [hn]; exact .inl rfl
              · rw [hs]
                refine .inr ⟨_, _, rfl, ?_⟩
                show (decide (64 < l.length) || decide (((d + 1 : Nat) : Int) < 1) || greatL l (((d + 1 : Nat) : Int) - 1)) = true
                rw [show (((d + 1 : Nat) : Int) - 1) = (d : Int) by omega, hg, Bool.or_true]
      · simp only [if_neg h0, if_neg h1, if_neg h2, if_neg h3, if_neg h4]; exact ⟨fun v m h => h, fun h => .inl h⟩
end Go.Proofs.Ytafogjonicdbmaa
