/- What a majority has is in what any majority's reports choose: the plain law; choirref23.Sure. -/
import Derived.Test.YtfmmabkekjchjaaVl12
set_option linter.unusedSimpArgs false
set_option linter.unusedVariables false
namespace Go.Proofs.Ytfmmabkekjchjaa
open Go.RowKit
set_option maxRecDepth 100000

theorem count_meet {α : Type} (p q : α → Bool) : ∀ l : List α, l.countP p + l.countP q ≤ l.length + l.countP (fun x => p x && q x)
  | [] => by simp
  | x :: l => by
    have ih := count_meet p q l
    simp only [List.countP_cons, List.length_cons]
    cases p x <;> cases q x <;> simp <;> omega

/-- The reports of those who are asked. -/
def rpK (all : List (Nat × OpD)) (ms : Nat → Nat) (j : Nat) : RpD := ⟨(j : Int), 9, 0, all.take (ms j)⟩
def rsK (all : List (Nat × OpD)) (ms : Nat → Nat) (bit : Nat → Bool) (i : Nat) : List RpD := ((List.range i).filter bit).map (rpK all ms)
structure KInv (all : List (Nat × OpD)) (ms : Nat → Nat) (done : List Nat) (st : RpD × List Int × Int) : Prop where
  who : st.2.1 = done.map (fun j : Nat => (j : Int))
  len : ∀ j ∈ done, ms j ≤ st.1.l.length
  tk : ∃ m, st.1.l = all.take m
  nine : done ≠ [] → st.1.v = 9
theorem kinv_step {all : List (Nat × OpD)} {ms : Nat → Nat} {K : Nat} {done : List Nat} {st : RpD × List Int × Int} {j : Nat} (h : KInv all ms done st) (hj : j < K) (hn : j ∉ done) (hm : ms j ≤ all.length) : KInv all ms (done ++ [j]) (stepC (K : Int) st (rpK all ms j)) := by
  obtain ⟨b, who, su⟩ := st
  have hw : who = done.map (fun j : Nat => (j : Int)) := h.who
  have hl := h.len
  obtain ⟨m, hm'⟩ := h.tk
  have h9 := h.nine
  dsimp only at hl hm' h9
  have hxl : (all.take (ms j)).length = ms j := by rw [List.length_take]; omega
  have hnw : ((j : Nat) : Int) ∉ who := by
    rw [hw]
    intro hc
    obtain ⟨i, hi, e⟩ := List.mem_map.1 hc
    have : i = j := by omega
    subst this
    exact hn hi
  unfold stepC rpK
  dsimp only
  rw [if_neg (by rintro (h | h | h); omega; omega; exact hnw h)]
  by_cases hc : who = [] ∨ betterR ⟨(j : Int), 9, 0, all.take (ms j)⟩ b = true
  · rw [if_pos hc]
    refine ⟨by dsimp only; rw [hw, List.map_append]; rfl, fun i hi => ?_, ⟨_, rfl⟩, fun _ => rfl⟩
    dsimp only
    rw [hxl]
    rcases List.mem_append.1 hi with hi | hi
    · rcases hc with hc | hc
      · rw [hw] at hc
        rw [List.map_eq_nil_iff.1 hc] at hi
        cases hi
      · have hd : done ≠ [] := fun e => by rw [e] at hi; cases hi
        have hv := h9 hd
        unfold betterR betterB at hc
        dsimp only at hc
        rw [hv, if_neg (by simp), hxl] at hc
        have := hl i hi
        split at hc
        · have := of_decide_eq_true hc; omega
        · omega
    · cases List.mem_singleton.1 hi; exact Nat.le_refl _
  · rw [if_neg hc]
    refine ⟨by dsimp only; rw [hw, List.map_append]; rfl, fun i hi => ?_, ⟨m, hm'⟩, fun _ => ?_⟩
    · dsimp only
      rcases List.mem_append.1 hi with hi | hi
      · exact hl i hi
      · cases List.mem_singleton.1 hi
        have hd : done ≠ [] := fun e => hc (.inl (by rw [hw, e]; rfl))
        have hv := h9 hd
        have hb : ¬ betterR ⟨(j : Int), 9, 0, all.take (ms j)⟩ b = true := fun e => hc (.inr e)
        unfold betterR betterB at hb
        dsimp only at hb
        rw [hv, if_neg (by simp), hxl] at hb
        split at hb
        · have := of_decide_eq_false (Bool.eq_false_iff.2 hb); omega
        · omega
    · exact h9 (fun e => hc (.inl (by rw [hw, e]; rfl)))
theorem kinv_fold {all : List (Nat × OpD)} {ms : Nat → Nat} {K : Nat} (hm : ∀ j, ms j ≤ all.length) : ∀ (js done : List Nat) (st : RpD × List Int × Int), KInv all ms done st → (done ++ js).Nodup → (∀ j ∈ js, j < K) → KInv all ms (done ++ js) ((js.map (rpK all ms)).foldl (stepC (K : Int)) st)
  | [], done, st, h, _, _ => by rw [List.append_nil]; exact h
  | j :: js, done, st, h, hn, hk => by
    have e : done ++ j :: js = (done ++ [j]) ++ js := by simp
    rw [e] at hn ⊢
    have hj : j ∉ done := by
      have := (List.nodup_append.1 (List.nodup_append.1 hn).1).2.2
      intro hc
      exact this j hc j (by simp) rfl
    exact kinv_fold hm js (done ++ [j]) _ (kinv_step h (hk j (List.mem_cons_self ..)) hj (hm j)) hn (fun i hi => hk i (List.mem_cons_of_mem _ hi))
theorem keep_inv {all : List (Nat × OpD)} {ms : Nat → Nat} {bit : Nat → Bool} {K : Nat} (hm : ∀ j, ms j ≤ all.length) (hK : clampI (K : Int) = (K : Int)) : KInv all ms ((List.range K).filter bit) (chooseS (K : Int) (rsK all ms bit K)) := by
  unfold chooseS rsK
  rw [hK]
  have := kinv_fold (K := K) hm ((List.range K).filter bit) [] (zeroR, [], 0) ⟨rfl, by simp, ⟨0, rfl⟩, by simp⟩ (by rw [List.nil_append]; exact List.Pairwise.filter _ List.nodup_range) (fun j hj => by have := (List.mem_filter.1 hj).1; simpa using this)
  rw [List.nil_append] at this
  exact this
/-- What a majority has is not longer than what is chosen. -/
theorem keep_law {all : List (Nat × OpD)} {ms : Nat → Nat} {bit : Nat → Bool} {K : Nat} (hm : ∀ j, ms j ≤ all.length) (hK : clampI (K : Int) = (K : Int)) (hok : chOk (K : Int) (rsK all ms bit K) = true) (x : Nat)
    (hx : (K : Int) / 2 + 1 ≤ (((List.range K).countP fun j => decide (x ≤ ms j) : Nat) : Int)) : x ≤ (chooseS (K : Int) (rsK all ms bit K)).1.l.length := by
  have hI := keep_inv (bit := bit) hm hK
  unfold chOk hasB at hok
  rw [hI.who, List.length_map, hK] at hok
  have hlen := of_decide_eq_true hok
  rw [← List.countP_eq_length_filter] at hlen
  have hcm := count_meet bit (fun j => decide (x ≤ ms j)) (List.range K)
  rw [List.length_range] at hcm
  have hpos : 0 < (List.range K).countP (fun j => bit j && decide (x ≤ ms j)) := by omega
  obtain ⟨j, hj, hb⟩ := List.countP_pos_iff.1 hpos
  rw [Bool.and_eq_true, decide_eq_true_iff] at hb
  exact Nat.le_trans hb.2 (hI.len j (List.mem_filter.2 ⟨hj, hb.1⟩))

def cntGe (l : List Int) (x : Int) (j : Nat) : Nat := (l.take j).countP fun y => decide (x ≤ y)
theorem cntGe_next {l : List Int} {x y : Int} {j : Nat} (h : l[j]? = some y) : cntGe l x (j + 1) = cntGe l x j + (if x ≤ y then 1 else 0) := by
  obtain ⟨hj, rfl⟩ := List.getElem?_eq_some_iff.1 h
  unfold cntGe
  rw [List.take_succ_eq_append_getElem hj, List.countP_append]
  simp [List.countP_cons]

set_option maxHeartbeats 6400000 in
theorem ref_sure {w : World} {B c : Nat} {A : Option Addr} {l : List Int} {n M : Int} (h : Reads w B 1 A l.length (ints l)) (hB : B ≤ w.heap.size) (hl : (l.length : Int) = clampI n) (h0 : 0 ≤ M) (hM : ∀ x ∈ l, clampI n / 2 + 1 ≤ ((cntGe l x l.length : Nat) : Int) → x ≤ M) :
    Calls Try.prog 22 #[.int .i64 n, .slice A l.length c] w (fun e w' => ∃ s : Int, e = .returned (.int .i64 s) ∧ s ≤ M ∧ Below w.heap.size w w') := by
  have hrng := clampI_rng n
  have hnd := fun w => ref_nodes n w
  have hne := fun w => ref_need (clampI n) w
  rw [clampI_idem] at hne
  obtain ⟨L, hL⟩ : ∃ L, l.length = L := ⟨_, rfl⟩
  rw [hL] at h hl hM ⊢
  rw [← hl] at hnd hne hM hrng
  replace hM := Lib.hid hM
  replace hL := Lib.hid hL
  replace hnd := Lib.hid hnd
  replace hne := Lib.hid hne
  replace h := Lib.hid h
  clear hl
  go_enter Try.func22, Try.ntmps22
  go_wp2_with fail
  refine (hnd.out _).mono ?_
  rintro e w1 ⟨rfl, rfl⟩
  try dsimp only
  go_wp2_with fail
  go_loopw [5, 6] (fun s5 s6 wr => ∃ (i : Nat) (b : Int), s5 = .int .i64 b ∧ s6 = .int .i64 (i : Int) ∧ i ≤ L ∧ b ≤ M ∧ Below w1.heap.size w1 wr) (fun _ i _ => L - (intOf i).toNat)
  case atStart => exact ⟨0, 0, rfl, rfl, Nat.zero_le _, h0, Below.refl _ _⟩
  case round =>
    obtain ⟨i, b, rfl, rfl, hi, hb, hbr⟩ := hrel
    obtain ⟨wo, rfl⟩ : ∃ wo, wo = wr := ⟨_, rfl⟩
    have hnw : IntKind.i64.wrap ((i : Int) + 1) = ((i + 1 : Nat) : Int) := by rw [IntKind.wrap_i64]; omega
    by_cases hlt : i < L
    · have hlt' : i < l.length := by rw [hL.out]; exact hlt
      have hx : l[i]? = some l[i] := List.getElem?_eq_getElem _
      have hxm := hM.out l[i] (List.getElem_mem hlt')
      generalize l[i] = x at hx hxm
      obtain ⟨ad, rfl, hcx⟩ := h.out.int1 hx hlt
      have hci : ∀ W, Below wo.heap.size wo W → W.cell? (ad.add i) = some (.int .i64 x) := fun W hW => hcx W ((below_then hW hbr).mono hB)
      have d2 : decide ((i : Int) < (L : Int)) = true := decide_eq_true (by omega)
      replace hci := Lib.hid hci
      replace hxm := Lib.hid hxm
      clear hx
      go_wp2_with fail
      go_loopw [7, 8] (fun s7 s8 wr => ∃ j m : Nat, s7 = .int .i64 (m : Int) ∧ s8 = .int .i64 (j : Int) ∧ j ≤ L ∧ m ≤ j ∧ Hid (cntGe l x j = m) ∧ Below wo.heap.size wo wr) (fun _ i _ => L - (intOf i).toNat)
      case atStart => exact ⟨0, 0, rfl, rfl, Nat.zero_le _, Nat.le_refl _, Lib.hid (by simp [cntGe]), Below.refl _ _⟩
      case round =>
        obtain ⟨j, m, rfl, rfl, hj, hmj, hm, hbq⟩ := hrel
        have hjw : IntKind.i64.wrap ((j : Int) + 1) = ((j + 1 : Nat) : Int) := by rw [IntKind.wrap_i64]; omega
        have hmw : IntKind.i64.wrap ((m : Int) + 1) = ((m + 1 : Nat) : Int) := by rw [IntKind.wrap_i64]; omega
        by_cases hjt : j < L
        · have hlj' : j < l.length := by rw [hL.out]; omega
          have hy : l[j]? = some l[j] := List.getElem?_eq_getElem _
          have hst := cntGe_next (x := x) hy
          generalize l[j] = y at hy hst
          obtain ⟨ad', e, hcy⟩ := h.out.int1 hy (by omega)
          cases e
          have hcj : ∀ W, Below wr.heap.size wr W → W.cell? (ad.add j) = some (.int .i64 y) ∧ W.cell? (ad.add i) = some (.int .i64 x) := fun W hW => ⟨hcy W ((below_then (below_then hW hbq) hbr).mono hB), hci.out W (below_then hW hbq)⟩
          have d3 : decide ((j : Int) < (L : Int)) = true := decide_eq_true (by omega)
          have hT0 : Below wr.heap.size wr wr.drew := (Below.refl _ _).drew
          replace hcj := Lib.hid hcj
          rw [hm.out] at hst
          replace hst := Lib.hid hst
          clear hy hcy
          by_cases hxy : x ≤ y
          · have d4 : decide (x ≤ y) = true := decide_eq_true hxy
            go_wp2_with fail
            refine wp_region_lex (fun W => Below wr.heap.size wr W) [3, 7] [] [0, 1, 2, 3, 4, 5, 6, 7, 8] (by kernel_rfl) rfl (by kernel_rfl) (by kernel_rfl) (fun _ _ d _ _ h => by cases d <;> exact h) ?_
            repeat (first | (refine lexG_take _ ?_ rfl rfl rfl rfl (fun _ => ?_) ?_; rotate_left; (focus (go_simp; with_reducible rfl)); try simp only [Act.put, List.setIfInBounds_toArray, List.set_cons_zero, List.set_cons_succ]) | (refine lexG_held _ ?_ rfl rfl rfl rfl (by assumption) (fun _ hSw => ?_) ?_; rotate_left; (focus (have h1 := hcj.out _ hSw; clear hSw; go_simp; with_reducible rfl)); try simp only [Act.put, List.setIfInBounds_toArray, List.set_cons_zero, List.set_cons_succ]) | (refine lexG_skip _ rfl rfl (by assumption) ?_; try simp only [Act.put, List.setIfInBounds_toArray, List.set_cons_zero, List.set_cons_succ]))
            refine lexG_nil ?_
            go_wp2_with fail
            exact ⟨⟨j + 1, m + 1, by simp [hmw], by simp [hjw], by omega, by omega, Lib.hid (by rw [hst.out, if_pos (by omega)]), below_then hT0 hbq⟩, by simp [intOf]; omega⟩
          · have d4 : decide (x ≤ y) = false := decide_eq_false hxy
            have d4' : y < x := by omega
            go_wp2_with fail
            refine wp_region_lex (fun W => Below wr.heap.size wr W) [3, 7] [] [0, 1, 2, 3, 4, 5, 6, 7, 8] (by kernel_rfl) rfl (by kernel_rfl) (by kernel_rfl) (fun _ _ d _ _ h => by cases d <;> exact h) ?_
            repeat (first | (refine lexG_take _ ?_ rfl rfl rfl rfl (fun _ => ?_) ?_; rotate_left; (focus (go_simp; with_reducible rfl)); try simp only [Act.put, List.setIfInBounds_toArray, List.set_cons_zero, List.set_cons_succ]) | (refine lexG_held _ ?_ rfl rfl rfl rfl (by assumption) (fun _ hSw => ?_) ?_; rotate_left; (focus (have h1 := hcj.out _ hSw; clear hSw; go_simp; with_reducible rfl)); try simp only [Act.put, List.setIfInBounds_toArray, List.set_cons_zero, List.set_cons_succ]) | (refine lexG_skip _ rfl rfl (by assumption) ?_; try simp only [Act.put, List.setIfInBounds_toArray, List.set_cons_zero, List.set_cons_succ]))
            refine lexG_nil ?_
            go_wp2_with fail
            exact ⟨⟨j + 1, m, by rfl, by simp [hjw], by omega, by omega, Lib.hid (by rw [hst.out, if_neg (by omega), Nat.add_zero]), below_then hT0 hbq⟩, by simp [intOf]; omega⟩
        · have hjL : j = L := by omega
          have d3 : decide ((j : Int) < (L : Int)) = false := decide_eq_false (by omega)
          have d3' : decide (j < L) = false := decide_eq_false (by omega)
          have hmL : cntGe l x L = m := by rw [← hjL]; exact hm.out
          have hxM := hxm.out
          rw [hmL] at hxM
          have hcw := hci.out wr hbq
          replace hjL := Lib.hid hjL
          replace hxM := Lib.hid hxM
          clear hm hmL
          by_cases hge : (L : Int) / 2 + 1 ≤ (m : Int)
          · have d5 : decide ((L : Int) / 2 + 1 ≤ (m : Int)) = true := decide_eq_true hge
            have hxle := hxM.out hge
            obtain ⟨b', hb'⟩ : ∃ b' : Int, (if b < x then x else b) = b' := ⟨_, rfl⟩
            have hbM : b' ≤ M := by rw [← hb']; split <;> assumption
            go_wp2_with fail
            refine (hne.out _).mono ?_
            rintro e w5 ⟨rfl, rfl⟩
            try dsimp only
            go_wp2_with fail
            exact ⟨⟨i + 1, b', by simp [hb'], by simp [hnw], by omega, hbM, below_then hbq hbr⟩, by simp [intOf]; omega⟩
          · have d5 : decide ((L : Int) / 2 + 1 ≤ (m : Int)) = false := decide_eq_false hge
            go_wp2_with fail
            refine (hne.out _).mono ?_
            rintro e w5 ⟨rfl, rfl⟩
            try dsimp only
            go_wp2_with fail
            exact ⟨⟨i + 1, b, by rfl, by simp [hnw], by omega, hb, below_then hbq hbr⟩, by simp [intOf]; omega⟩
    · have hi' : i = L := by omega
      have d2 : decide ((i : Int) < (L : Int)) = false := decide_eq_false (by omega)
      have d2' : decide (i < L) = false := decide_eq_false (by omega)
      replace hi' := Lib.hid hi'
      go_wp2_with fail
      go_ret
      exact ⟨b, rfl, hb, hbr⟩
end Go.Proofs.Ytfmmabkekjchjaa
