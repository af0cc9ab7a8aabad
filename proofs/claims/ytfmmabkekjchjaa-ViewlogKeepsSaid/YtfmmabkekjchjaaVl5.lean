/- choirref23.Has; what stays of a log, and what comes: Repair, both. -/
import Derived.Test.YtfmmabkekjchjaaVl4
set_option linter.unusedSimpArgs false
set_option linter.unusedVariables false
namespace Go.Proofs.Ytfmmabkekjchjaa
open Go.RowKit
set_option maxRecDepth 100000

theorem Reads.int1 {w : World} {B n : Nat} {A : Option Addr} {l : List Int} (h : Reads w B 1 A n (ints l)) {k : Nat} {x : Int} (hx : l[k]? = some x) (hk : k < n) : ∃ ad, A = some ad ∧ ∀ W, Below B w W → W.cell? (ad.add k) = some (.int .i64 x) := by
  obtain ⟨ad, u, rfl, -, hu, hc⟩ := h.at_ hk
  rw [ints_get hx] at hu
  cases hu
  refine ⟨ad, rfl, fun W hW => ?_⟩
  obtain ⟨ad', u, e, -, hu, hc⟩ := (h.below hW).at_ hk
  cases e
  rw [ints_get hx] at hu
  cases hu
  exact hc

set_option maxHeartbeats 3200000 in
theorem ref_has {w : World} {B c : Nat} {A : Option Addr} {l : List Int} {n : Int} (h : Reads w B 1 A l.length (ints l)) (hB : B ≤ w.heap.size) (hl : l.length ≤ 1000000) (hd : l.Nodup) (hr : ∀ x ∈ l, 0 ≤ x ∧ x < clampI n) :
    Calls Try.prog 29 #[.int .i64 n, .slice A l.length c] w (Says w (.bool (hasB n l.length))) := by
  have hrng := clampI_rng n
  have hnd := fun w => ref_nodes n w
  have hne := fun w => ref_need n w
  unfold hasB
  obtain ⟨K, hK⟩ : ∃ K, clampI n = K := ⟨_, rfl⟩
  rw [hK] at hnd hne hrng hr ⊢
  obtain ⟨L, hL⟩ : ∃ L, l.length = L := ⟨_, rfl⟩
  rw [hL] at h hl ⊢
  have hdis : ∀ i j : Nat, ∀ x y : Int, l[i]? = some x → l[j]? = some y → j < i → y ≠ x := fun i j x y hi hj hji e => by
    obtain ⟨hi', ei⟩ := List.getElem?_eq_some_iff.1 hi
    obtain ⟨hj', ej⟩ := List.getElem?_eq_some_iff.1 hj
    exact List.pairwise_iff_getElem.1 hd j i hj' hi' hji (ej.trans (e.trans ei.symm))
  replace hdis := Lib.hid hdis
  replace hr := Lib.hid hr
  replace hL := Lib.hid hL
  replace hnd := Lib.hid hnd
  replace hne := Lib.hid hne
  replace h := Lib.hid h
  clear hK hd
  go_enter Try.func29, Try.ntmps29
  go_wp2_with fail
  go_loopw [5, 6] (fun s5 s6 wr => ∃ i : Nat, s5 = .int .i64 (i : Int) ∧ s6 = .int .i64 (i : Int) ∧ i ≤ L ∧ Below w.heap.size w wr) (fun _ i _ => L - (intOf i).toNat)
  case atStart => exact ⟨0, rfl, rfl, Nat.zero_le _, Below.refl _ _⟩
  case round =>
    obtain ⟨i, rfl, rfl, hi, hbr⟩ := hrel
    obtain ⟨wo, rfl⟩ : ∃ wo, wo = wr := ⟨_, rfl⟩
    have hnw : IntKind.i64.wrap ((i : Int) + 1) = ((i + 1 : Nat) : Int) := by rw [IntKind.wrap_i64]; omega
    by_cases hlt : i < L
    · have hlt' : i < l.length := by rw [hL.out]; exact hlt
      have hx : l[i]? = some l[i] := List.getElem?_eq_getElem _
      have hxr := hr.out l[i] (List.getElem_mem hlt')
      generalize l[i] = x at hx hxr
      obtain ⟨ad, rfl, hcx⟩ := h.out.int1 hx hlt
      have hci : ∀ W, Below wo.heap.size wo W → W.cell? (ad.add i) = some (.int .i64 x) := fun W hW => hcx W ((below_then hW hbr).mono hB)
      have d2 : decide ((i : Int) < (L : Int)) = true := decide_eq_true (by omega)
      have dx0 : decide (x < 0) = false := decide_eq_false (by omega)
      have dxK : decide (K ≤ x) = false := decide_eq_false (by omega)
      have dxK' : ¬ K ≤ x := by omega
      have hS0 : Below wo.heap.size wo wo.drew := (Below.refl _ _).drew
      replace hci := Lib.hid hci
      replace hx := Lib.hid hx
      go_wp2_with fail
      refine wp_region_lex (fun W => Below wo.heap.size wo W) [3, 9] [11] [0, 1, 2, 3, 4, 5, 6, 7, 8, 9, 10, 11, 12, 13, 14] (by kernel_rfl) rfl (by kernel_rfl) (by kernel_rfl) (fun _ _ d _ _ h => by cases d <;> exact h) ?_
      repeat (first | (refine lexG_take _ ?_ rfl rfl rfl rfl (fun _ => ?_) ?_; rotate_left; (focus (go_simp; with_reducible rfl)); try simp only [Act.put, List.setIfInBounds_toArray, List.set_cons_zero, List.set_cons_succ]) | (refine lexG_held _ ?_ rfl rfl rfl rfl (by assumption) (fun _ hSw => ?_) ?_; rotate_left; (focus (have h1 := hci.out _ hSw; clear hSw; go_simp; with_reducible rfl)); try simp only [Act.put, List.setIfInBounds_toArray, List.set_cons_zero, List.set_cons_succ]) | (refine lexG_skip _ rfl rfl (by assumption) ?_; try simp only [Act.put, List.setIfInBounds_toArray, List.set_cons_zero, List.set_cons_succ]))
      refine lexG_now _ rfl rfl rfl (fun K0 hK => ?_)
      go_wp2_with fail
      refine (hnd.out _).mono ?_
      rintro e w5 ⟨rfl, rfl⟩
      try dsimp only
      refine hK _ _ _ (fun _ h => h) hS0 ?_
      clear hK K0
      try simp only [Act.put, List.setIfInBounds_toArray, List.set_cons_zero, List.set_cons_succ]
      repeat (first | (refine lexG_take _ ?_ rfl rfl rfl rfl (fun _ => ?_) ?_; rotate_left; (focus (go_simp; with_reducible rfl)); try simp only [Act.put, List.setIfInBounds_toArray, List.set_cons_zero, List.set_cons_succ]) | (refine lexG_held _ ?_ rfl rfl rfl rfl (by assumption) (fun _ hSw => ?_) ?_; rotate_left; (focus (have h1 := hci.out _ hSw; clear hSw; go_simp; with_reducible rfl)); try simp only [Act.put, List.setIfInBounds_toArray, List.set_cons_zero, List.set_cons_succ]) | (refine lexG_skip _ rfl rfl (by assumption) ?_; try simp only [Act.put, List.setIfInBounds_toArray, List.set_cons_zero, List.set_cons_succ]))
      refine lexG_nil ?_
      have hb5 := below_then hS0 hbr
      generalize wo.drew = w5 at *
      go_wp2_with fail
      go_loopw [7, 8] (fun s7 s8 wr => ∃ j : Nat, s7 = .bool false ∧ s8 = .int .i64 (j : Int) ∧ j ≤ i ∧ Below w.heap.size w wr ∧ Below wo.heap.size wo wr) (fun _ i _ => L - (intOf i).toNat)
      case atStart => exact ⟨0, rfl, rfl, Nat.zero_le _, hb5, hS0⟩
      case round =>
        obtain ⟨j, rfl, rfl, hj, hbq, hSq⟩ := hrel
        have hjw : IntKind.i64.wrap ((j : Int) + 1) = ((j + 1 : Nat) : Int) := by rw [IntKind.wrap_i64]; omega
        by_cases hjt : j < i
        · have hlj' : j < l.length := by rw [hL.out]; omega
          have hy : l[j]? = some l[j] := List.getElem?_eq_getElem _
          have hyx := hdis.out i j x l[j] hx.out hy hjt
          generalize l[j] = y at hy hyx
          obtain ⟨ad', e, hcy⟩ := h.out.int1 hy (by omega)
          cases e
          have hcj : ∀ W, Below wr.heap.size wr W → W.cell? (ad.add j) = some (.int .i64 y) ∧ W.cell? (ad.add i) = some (.int .i64 x) := fun W hW => ⟨hcy W ((below_then hW hbq).mono hB), hci.out W (below_then hW hSq)⟩
          have d3 : decide ((j : Int) < (i : Int)) = true := decide_eq_true (by omega)
          have d4 : (y == x) = false := by rw [beq_eq_false_iff_ne]; exact hyx
          have hT0 : Below wr.heap.size wr wr.drew := (Below.refl _ _).drew
          have hjL : j < L := by omega
          replace hcj := Lib.hid hcj
          clear hy hcy
          go_wp2_with fail
          refine wp_region_lex (fun W => Below wr.heap.size wr W) [5, 9] [] [0, 1, 2, 3, 4, 5, 6, 7, 8, 9, 10, 11, 12] (by kernel_rfl) rfl (by kernel_rfl) (by kernel_rfl) (fun _ _ d _ _ h => by cases d <;> exact h) ?_
          repeat (first | (refine lexG_take _ ?_ rfl rfl rfl rfl (fun _ => ?_) ?_; rotate_left; (focus (go_simp; with_reducible rfl)); try simp only [Act.put, List.setIfInBounds_toArray, List.set_cons_zero, List.set_cons_succ]) | (refine lexG_held _ ?_ rfl rfl rfl rfl (by assumption) (fun _ hSw => ?_) ?_; rotate_left; (focus (have h1 := hcj.out _ hSw; clear hSw; go_simp; with_reducible rfl)); try simp only [Act.put, List.setIfInBounds_toArray, List.set_cons_zero, List.set_cons_succ]) | (refine lexG_skip _ rfl rfl (by assumption) ?_; try simp only [Act.put, List.setIfInBounds_toArray, List.set_cons_zero, List.set_cons_succ]))
          refine lexG_nil ?_
          go_wp2_with fail
          exact ⟨⟨j + 1, rfl, by simp [hjw], by omega, below_then hT0 hbq, below_then hT0 hSq⟩, by simp [intOf]; omega⟩
        · have hji : j = i := by omega
          have d3 : decide ((j : Int) < (i : Int)) = false := decide_eq_false (by omega)
          have d3' : decide (j < i) = false := decide_eq_false (by omega)
          replace hji := Lib.hid hji
          go_wp2_with fail
          exact ⟨⟨i + 1, by simp [hnw], by simp [hnw], by omega, hbq⟩, by simp [intOf]; omega⟩
    · have hi' : i = L := by omega
      subst hi'
      have d2 : decide ((i : Int) < (i : Int)) = false := decide_eq_false (by omega)
      go_wp2_with fail
      refine (hne.out _).mono ?_
      rintro e w3 ⟨rfl, rfl⟩
      try dsimp only
      go_wp2_with fail
      go_ret
      exact ⟨by simp, hbr⟩

theorem LogR.cut {w : World} {B c k : Nat} {A : Option Addr} {l : List (Nat × OpD)} {xs : List Value} {css : Nat → Array Value} (h : LogR w B A c l xs css) (hk : k ≤ l.length) :
    LogR w B (if c = k then A else A.map (·.add (k * 7))) (c - k) (l.drop k) (xs.drop (k * 7)) (fun j => css (k + j)) := by
  have hc := h.hc
  refine ⟨by rw [List.length_drop]; exact h.r.cut hk hc, by rw [List.length_drop]; omega, fun e => ?_, fun j x hj => ?_, fun j x hj => ?_, fun x hx => h.hv x (List.mem_of_mem_drop hx), fun u hu => h.one u (List.mem_of_mem_drop hu)⟩
  · split at e
    · omega
    · have := h.hA (by cases A <;> simp_all); omega
  · rw [List.getElem?_drop] at hj
    exact h.hx _ x hj
  · rw [List.getElem?_drop] at hj
    rw [← h.hxs _ x hj, List.drop_drop]
    congr 2
    omega

def repOk (a b : List (Nat × OpD)) (su : Int) : Bool := !(decide ((sameN a b : Int) < su) || decide (400 < b.length))
/-- What Repair tells. -/
def RepVl (w : World) (a b : List (Nat × OpD)) (su : Int) (e : Ending) (w' : World) : Prop :=
  Below w.heap.size w w' ∧ ((repOk a b su = false ∧ e = .returned (.tuple #[.int .i64 0, .slice none 0 0, .bool false])) ∨
    (repOk a b su = true ∧ ∃ A c xs css, e = .returned (.tuple #[.int .i64 (sameN a b : Int), .slice A (b.length - sameN a b) c, .bool true]) ∧ LogP w' w.heap.size A c (cleanLog (b.drop (sameN a b))) xs css))
def RepRf (w : World) (B : Nat) (a b : List (Nat × OpD)) (su : Int) (e : Ending) (w' : World) : Prop :=
  Below w.heap.size w w' ∧ ((repOk a b su = false ∧ e = .returned (.tuple #[.int .i64 0, .slice none 0 0, .bool false])) ∨
    (repOk a b su = true ∧ ∃ A c xs css, e = .returned (.tuple #[.int .i64 (sameN a b : Int), .slice A (b.length - sameN a b) c, .bool true]) ∧ LogR w' B A c (b.drop (sameN a b)) xs css))

set_option maxHeartbeats 3200000 in
theorem vl_repair {w : World} {B ca cb' : Nat} {A A' : Option Addr} {a b : List (Nat × OpD)} {xs ys : List Value} {css cst : Nat → Array Value} {su : Int} (h : LogR w B A ca a xs css) (h' : LogR w B A' cb' b ys cst) (hB : B ≤ w.heap.size) (hla : a.length ≤ 1000000) (hlb : b.length ≤ 1000000) :
    Calls Try.prog 17 #[.slice A a.length ca, .slice A' b.length cb', .int .i64 su] w (RepVl w a b su) := by
  have hs := vl_same h h' hB hla hlb
  have hle := sameN_le a b
  have hcut := fun W (hW : Below w.heap.size w W) => (h'.below (hW.mono hB)).cut hle.2
  have hcc := h'.hc
  obtain ⟨r, hr⟩ : ∃ r, sameN a b = r := ⟨_, rfl⟩
  obtain ⟨na, hna⟩ : ∃ N, a.length = N := ⟨_, rfl⟩
  obtain ⟨nb, hnb⟩ : ∃ N, b.length = N := ⟨_, rfl⟩
  rw [hr, hna, hnb] at hs
  rw [hr, hnb] at hle
  rw [hnb] at hcc
  rw [hna, hnb]
  rw [hnb] at hlb
  have hdl : (b.drop r).length = nb - r := by rw [List.length_drop, hnb]
  have hcl := fun W (hW : Below w.heap.size w W) => vl_clone (hcut W hW) (Nat.le_trans hB hW.size) (by rw [hr, hdl]; omega)
  rw [hr, hdl] at hcl
  replace hdl : (cleanLog (b.drop r)).length = nb - r := by unfold cleanLog; rw [List.length_map, hdl]
  have no : ∀ e w', Below w.heap.size w w' → ((r : Int) < su ∨ 400 < nb) → e = .returned (.tuple #[.int .i64 0, .slice none 0 0, .bool false]) → RepVl w a b su e w' := fun e w' hb hc he => ⟨hb, .inl ⟨by unfold repOk; rw [hr, hnb]; rcases hc with h | h <;> simp [h], he⟩⟩
  have yes : ∀ e w' A c xs css, Below w.heap.size w w' → ¬ (r : Int) < su → ¬ 400 < nb → e = .returned (.tuple #[.int .i64 (r : Int), .slice A (nb - r) c, .bool true]) → LogP w' w.heap.size A c (cleanLog (b.drop r)) xs css → RepVl w a b su e w' := fun e w' A c xs css hb h1 h4 he hp => ⟨hb, .inr ⟨by unfold repOk; rw [hr, hnb]; simp [h1, h4], A, c, xs, css, by rw [hr, hnb]; exact he, by rw [hr]; exact hp⟩⟩
  replace hs := Lib.hid hs
  replace hcl := Lib.hid hcl
  replace hdl := Lib.hid hdl
  replace no := Lib.hid no
  replace yes := Lib.hid yes
  obtain ⟨-, hle⟩ := hle
  clear hr hcut h h' hna hnb
  go_enter Try.func17, Try.ntmps17
  go_wp2_with fail
  refine hs.out.mono ?_
  rintro e w2 ⟨rfl, hb2⟩
  try dsimp only
  by_cases h1 : (r : Int) < su
  · have d1 : decide ((r : Int) < su) = true := decide_eq_true h1
    go_wp2_with fail
    go_ret3
    exact no.out _ _ hb2 (.inl h1) rfl
  have d1 : decide ((r : Int) < su) = false := decide_eq_false h1
  by_cases h4 : 400 < nb
  · have d2 : decide ((400 : Int) < (nb : Int)) = true := decide_eq_true (by omega)
    have d2' : decide (400 < nb) = true := decide_eq_true h4
    go_wp2_with fail
    go_ret3
    exact no.out _ _ hb2 (.inr h4) rfl
  have d2 : decide ((400 : Int) < (nb : Int)) = false := decide_eq_false (by omega)
  have d2' : decide (400 < nb) = false := decide_eq_false h4
  have hrn : (r : Int) ≤ (nb : Int) := by omega
  have hrc : r ≤ cb' := by omega
  go_wp2_with fail
  · have hc := hcl.out w2 hb2
    rw [if_pos h, h, Nat.sub_self] at hc
    refine hc.mono ?_
    clear hc
    rintro e w3 ⟨A3, c3, xs3, css3, rfl, P3, hb3⟩
    rw [hdl.out]
    try dsimp only
    have hb3' := below_then hb3 hb2
    have P3' : LogP w3 w.heap.size A3 c3 (cleanLog (b.drop r)) xs3 css3 := ⟨P3.ho, fun g hg => Nat.le_trans hb2.size (P3.hA g hg), fun j x hj => (P3.hx j x hj).next (T := fun _ => False) (Upd.refl _ _) (fun _ _ hf => hf.elim) (fun g hg hp => hp.imp (fun h => Nat.lt_of_lt_of_le h hb2.size) id), P3.hxs, P3.hv, P3.one⟩
    replace P3' := Lib.hid P3'
    clear P3
    go_wp2_with fail
    go_ret3
    exact yes.out _ _ A3 c3 xs3 css3 hb3' h1 h4 rfl P3'.out
  · have hc := hcl.out w2 hb2
    rw [if_neg h] at hc
    refine hc.mono ?_
    clear hc
    rintro e w3 ⟨A3, c3, xs3, css3, rfl, P3, hb3⟩
    rw [hdl.out]
    try dsimp only
    have hb3' := below_then hb3 hb2
    have P3' : LogP w3 w.heap.size A3 c3 (cleanLog (b.drop r)) xs3 css3 := ⟨P3.ho, fun g hg => Nat.le_trans hb2.size (P3.hA g hg), fun j x hj => (P3.hx j x hj).next (T := fun _ => False) (Upd.refl _ _) (fun _ _ hf => hf.elim) (fun g hg hp => hp.imp (fun h => Nat.lt_of_lt_of_le h hb2.size) id), P3.hxs, P3.hv, P3.one⟩
    replace P3' := Lib.hid P3'
    clear P3
    go_wp2_with fail
    go_ret3
    exact yes.out _ _ A3 c3 xs3 css3 hb3' h1 h4 rfl P3'.out

set_option maxHeartbeats 3200000 in
theorem ref_repair {w : World} {B ca cb' : Nat} {A A' : Option Addr} {a b : List (Nat × OpD)} {xs ys : List Value} {css cst : Nat → Array Value} {su : Int} (h : LogR w B A ca a xs css) (h' : LogR w B A' cb' b ys cst) (hB : B ≤ w.heap.size) (hla : a.length ≤ 1000000) (hlb : b.length ≤ 1000000) :
    Calls Try.prog 18 #[.slice A a.length ca, .slice A' b.length cb', .int .i64 su] w (RepRf w B a b su) := by
  have hs := ref_vl_same h h' hB hla hlb
  have hle := sameN_le a b
  have hcut := fun W (hW : Below w.heap.size w W) => (h'.below (hW.mono hB)).cut hle.2
  have hcc := h'.hc
  obtain ⟨r, hr⟩ : ∃ r, sameN a b = r := ⟨_, rfl⟩
  obtain ⟨na, hna⟩ : ∃ N, a.length = N := ⟨_, rfl⟩
  obtain ⟨nb, hnb⟩ : ∃ N, b.length = N := ⟨_, rfl⟩
  rw [hr, hna, hnb] at hs
  rw [hr, hnb] at hle
  rw [hnb] at hcc
  rw [hna, hnb]
  rw [hnb] at hlb
  rw [hr] at hcut
  have no : ∀ e w', Below w.heap.size w w' → ((r : Int) < su ∨ 400 < nb) → e = .returned (.tuple #[.int .i64 0, .slice none 0 0, .bool false]) → RepRf w B a b su e w' := fun e w' hb hc he => ⟨hb, .inl ⟨by unfold repOk; rw [hr, hnb]; rcases hc with h | h <;> simp [h], he⟩⟩
  have yes : ∀ e w' A c xs css, Below w.heap.size w w' → ¬ (r : Int) < su → ¬ 400 < nb → e = .returned (.tuple #[.int .i64 (r : Int), .slice A (nb - r) c, .bool true]) → LogR w' B A c (b.drop r) xs css → RepRf w B a b su e w' := fun e w' A c xs css hb h1 h4 he hp => ⟨hb, .inr ⟨by unfold repOk; rw [hr, hnb]; simp [h1, h4], A, c, xs, css, by rw [hr, hnb]; exact he, by rw [hr]; exact hp⟩⟩
  replace hs := Lib.hid hs
  replace hcut := Lib.hid hcut
  replace no := Lib.hid no
  replace yes := Lib.hid yes
  obtain ⟨-, hle⟩ := hle
  clear hr h h' hna hnb
  go_enter Try.func18, Try.ntmps18
  go_wp2_with fail
  refine hs.out.mono ?_
  rintro e w2 ⟨rfl, hb2⟩
  try dsimp only
  by_cases h1 : (r : Int) < su
  · have d1 : decide ((r : Int) < su) = true := decide_eq_true h1
    go_wp2_with fail
    go_ret3
    exact no.out _ _ hb2 (.inl h1) rfl
  have d1 : decide ((r : Int) < su) = false := decide_eq_false h1
  by_cases h4 : 400 < nb
  · have d2 : decide ((400 : Int) < (nb : Int)) = true := decide_eq_true (by omega)
    have d2' : decide (400 < nb) = true := decide_eq_true h4
    go_wp2_with fail
    go_ret3
    exact no.out _ _ hb2 (.inr h4) rfl
  have d2 : decide ((400 : Int) < (nb : Int)) = false := decide_eq_false (by omega)
  have d2' : decide (400 < nb) = false := decide_eq_false h4
  have hrn : (r : Int) ≤ (nb : Int) := by omega
  have hrc : r ≤ cb' := by omega
  by_cases hcr : cb' = r
  · have hc := hcut.out w2.drew (hb2.drew)
    rw [if_pos hcr, show cb' - r = 0 by omega] at hc
    replace hc := Lib.hid hc
    clear hcut
    go_upto_region 4 with (fail)
    refine wp_region_lex (fun W => True) [] [] [0, 1, 2, 3, 4, 5, 6] (by kernel_rfl) rfl (by kernel_rfl) (by kernel_rfl) (fun _ _ d _ _ h => by cases d <;> exact h) ?_
    repeat (first | (refine lexG_take _ ?_ rfl rfl rfl rfl (fun _ => ?_) ?_; rotate_left; (focus (go_simp; with_reducible rfl)); try simp only [Act.put, List.setIfInBounds_toArray, List.set_cons_zero, List.set_cons_succ]) | (refine lexG_held _ ?_ rfl rfl rfl rfl (by assumption) (fun _ hSw => ?_) ?_; rotate_left; (focus ((try dsimp only at hSw); go_simp; with_reducible rfl)); try simp only [Act.put, List.setIfInBounds_toArray, List.set_cons_zero, List.set_cons_succ]) | (refine lexG_skip _ rfl rfl (by assumption) ?_; try simp only [Act.put, List.setIfInBounds_toArray, List.set_cons_zero, List.set_cons_succ]))
    refine lexG_nil ?_
    go_wp2_with fail
    go_ret3
    exact yes.out _ _ _ _ _ _ hb2.drew h1 h4 rfl hc.out
  · have hc := hcut.out w2.drew (hb2.drew)
    rw [if_neg hcr] at hc
    replace hc := Lib.hid hc
    clear hcut
    go_upto_region 4 with (fail)
    refine wp_region_lex (fun W => True) [] [] [0, 1, 2, 3, 4, 5, 6] (by kernel_rfl) rfl (by kernel_rfl) (by kernel_rfl) (fun _ _ d _ _ h => by cases d <;> exact h) ?_
    repeat (first | (refine lexG_take _ ?_ rfl rfl rfl rfl (fun _ => ?_) ?_; rotate_left; (focus (go_simp; with_reducible rfl)); try simp only [Act.put, List.setIfInBounds_toArray, List.set_cons_zero, List.set_cons_succ]) | (refine lexG_held _ ?_ rfl rfl rfl rfl (by assumption) (fun _ hSw => ?_) ?_; rotate_left; (focus ((try dsimp only at hSw); go_simp; with_reducible rfl)); try simp only [Act.put, List.setIfInBounds_toArray, List.set_cons_zero, List.set_cons_succ]) | (refine lexG_skip _ rfl rfl (by assumption) ?_; try simp only [Act.put, List.setIfInBounds_toArray, List.set_cons_zero, List.set_cons_succ]))
    refine lexG_nil ?_
    go_wp2_with fail
    go_ret3
    exact yes.out _ _ _ _ _ _ hb2.drew h1 h4 rfl hc.out

end Go.Proofs.Ytfmmabkekjchjaa
