/- Which report is better; majorities; what stays of a log. -/
import Derived.Test.YtfmmabkekjchjaaVl3
set_option linter.unusedSimpArgs false
set_option linter.unusedVariables false
namespace Go.Proofs.Ytfmmabkekjchjaa
open Go.RowKit
set_option maxRecDepth 100000

def betterB (v v' n n' : Nat) (f f' : Int) : Bool := if v ≠ v' then decide (v' < v) else if n ≠ n' then decide (n' < n) else decide (f < f')

set_option maxHeartbeats 1600000 in
theorem vl_better {w : World} {f1 f2 s1 s2 : Int} {v1 v2 n1 n2 c1 c2 : Nat} {A1 A2 : Option Addr} :
    Calls Try.prog 9 #[.agg #[.int .i64 f1, .int .u64 (v1 : Int), .slice A1 n1 c1, .int .i64 s1], .agg #[.int .i64 f2, .int .u64 (v2 : Int), .slice A2 n2 c2, .int .i64 s2]] w (Says w (.bool (betterB v1 v2 n1 n2 f1 f2))) := by
  have b1 := ((Blk.new w 31 #[.int .i64 f1, .int .u64 (v1 : Int), .slice A1 n1 c1, .int .i64 s1]).alloc (.cells #[.int .i64 f2, .int .u64 (v2 : Int), .slice A2 n2 c2, .int .i64 s2] 31)).st4
  have b2 := (Blk.new (w.alloc (.cells #[.int .i64 f1, .int .u64 (v1 : Int), .slice A1 n1 c1, .int .i64 s1] 31)) 31 #[.int .i64 f2, .int .u64 (v2 : Int), .slice A2 n2 c2, .int .i64 s2])
  rw [World.size_alloc] at b2
  replace b2 := b2.st4
  have hbl := ((Below.refl w.heap.size w).alloc (Nat.le_refl _) (.cells #[.int .i64 f1, .int .u64 (v1 : Int), .slice A1 n1 c1, .int .i64 s1] 31)).alloc (by simp) (.cells #[.int .i64 f2, .int .u64 (v2 : Int), .slice A2 n2 c2, .int .i64 s2] 31)
  unfold betterB
  by_cases hv : v1 = v2
  · subst hv
    rw [if_neg (by simp)]
    have d1 : ((v1 : Int) != (v1 : Int)) = false := by simp
    by_cases hn : n1 = n2
    · subst hn
      rw [if_neg (by simp)]
      have d2 : ((n1 : Int) != (n1 : Int)) = false := by simp
      go_enter Try.func9, Try.ntmps9
      go_wp2_with fail
      go_ret
      exact ⟨rfl, hbl⟩
    · rw [if_pos hn]
      have d2 : ((n1 : Int) != (n2 : Int)) = true := bne_iff_ne.2 (by omega)
      have d3 : decide ((n2 : Int) < (n1 : Int)) = decide (n2 < n1) := by simp
      go_enter Try.func9, Try.ntmps9
      go_wp2_with fail
      go_ret
      exact ⟨by simp, hbl⟩
  · rw [if_pos hv]
    have d1 : ((v1 : Int) != (v2 : Int)) = true := bne_iff_ne.2 (by omega)
    go_enter Try.func9, Try.ntmps9
    go_wp2_with fail
    go_ret
    exact ⟨by simp, hbl⟩

set_option maxHeartbeats 1600000 in
theorem ref_better {w : World} {f1 f2 s1 s2 : Int} {v1 v2 n1 n2 c1 c2 : Nat} {A1 A2 : Option Addr} :
    Calls Try.prog 10 #[.agg #[.int .i64 f1, .int .u64 (v1 : Int), .slice A1 n1 c1, .int .i64 s1], .agg #[.int .i64 f2, .int .u64 (v2 : Int), .slice A2 n2 c2, .int .i64 s2]] w (Says w (.bool (betterB v1 v2 n1 n2 f1 f2))) := by
  have b1 := ((Blk.new w 31 #[.int .i64 f1, .int .u64 (v1 : Int), .slice A1 n1 c1, .int .i64 s1]).alloc (.cells #[.int .i64 f2, .int .u64 (v2 : Int), .slice A2 n2 c2, .int .i64 s2] 31)).st4
  have b2 := (Blk.new (w.alloc (.cells #[.int .i64 f1, .int .u64 (v1 : Int), .slice A1 n1 c1, .int .i64 s1] 31)) 31 #[.int .i64 f2, .int .u64 (v2 : Int), .slice A2 n2 c2, .int .i64 s2])
  rw [World.size_alloc] at b2
  replace b2 := b2.st4
  have hbl := ((Below.refl w.heap.size w).alloc (Nat.le_refl _) (.cells #[.int .i64 f1, .int .u64 (v1 : Int), .slice A1 n1 c1, .int .i64 s1] 31)).alloc (by simp) (.cells #[.int .i64 f2, .int .u64 (v2 : Int), .slice A2 n2 c2, .int .i64 s2] 31)
  unfold betterB
  by_cases hv : v1 = v2
  · subst hv
    rw [if_neg (by simp)]
    have d1 : ((v1 : Int) != (v1 : Int)) = false := by simp
    by_cases hn : n1 = n2
    · subst hn
      rw [if_neg (by simp)]
      have d2 : ((n1 : Int) != (n1 : Int)) = false := by simp
      go_enter Try.func10, Try.ntmps10
      go_wp2_with fail
      go_ret
      exact ⟨rfl, hbl⟩
    · rw [if_pos hn]
      have d2 : ((n1 : Int) != (n2 : Int)) = true := bne_iff_ne.2 (by omega)
      have d3 : decide ((n2 : Int) < (n1 : Int)) = decide (n2 < n1) := by simp
      go_enter Try.func10, Try.ntmps10
      go_wp2_with fail
      go_ret
      exact ⟨by simp, hbl⟩
  · rw [if_pos hv]
    have d1 : ((v1 : Int) != (v2 : Int)) = true := bne_iff_ne.2 (by omega)
    go_enter Try.func10, Try.ntmps10
    go_wp2_with fail
    go_ret
    exact ⟨by simp, hbl⟩

def clampI (n : Int) : Int := if n < 1 then 1 else if 7 < n then 7 else n
theorem clampI_rng (n : Int) : 1 ≤ clampI n ∧ clampI n ≤ 7 := by unfold clampI; split <;> (try split) <;> omega

theorem q_nodes (n : Int) (w : World) : Calls Try.prog 40 #[.int .i64 n] w (fun e w' => e = .returned (.int .i64 (clampI n)) ∧ w' = w) := by
  unfold clampI
  by_cases h1 : n < 1
  · rw [if_pos h1]
    go_enter Try.func40, Try.ntmps40
    go_wp2_with fail
    go_ret
    exact ⟨by simp [h1]; try omega, rfl⟩
  · rw [if_neg h1]
    by_cases h2 : 7 < n
    · rw [if_pos h2]
      go_enter Try.func40, Try.ntmps40
      go_wp2_with fail
      go_ret
      exact ⟨by simp [h1, h2]; try omega, rfl⟩
    · rw [if_neg h2]
      go_enter Try.func40, Try.ntmps40
      go_wp2_with fail
      go_ret
      exact ⟨by simp [h1, h2]; try omega, rfl⟩

theorem ref_nodes (n : Int) (w : World) : Calls Try.prog 28 #[.int .i64 n] w (fun e w' => e = .returned (.int .i64 (clampI n)) ∧ w' = w) := by
  unfold clampI
  by_cases h1 : n < 1
  · rw [if_pos h1]
    go_enter Try.func28, Try.ntmps28
    go_wp2_with fail
    go_ret
    exact ⟨by simp [h1]; try omega, rfl⟩
  · rw [if_neg h1]
    by_cases h2 : 7 < n
    · rw [if_pos h2]
      go_enter Try.func28, Try.ntmps28
      go_wp2_with fail
      go_ret
      exact ⟨by simp [h1, h2]; try omega, rfl⟩
    · rw [if_neg h2]
      go_enter Try.func28, Try.ntmps28
      go_wp2_with fail
      go_ret
      exact ⟨by simp [h1, h2]; try omega, rfl⟩

theorem q_need (n : Int) (w : World) : Calls Try.prog 41 #[.int .i64 n] w (fun e w' => e = .returned (.int .i64 (clampI n / 2 + 1)) ∧ w' = w) := by
  have hn := q_nodes n
  have hr := clampI_rng n
  generalize clampI n = k at *
  have ht : k.tdiv 2 = k / 2 := Int.tdiv_eq_ediv_of_nonneg (by omega)
  have hw : IntKind.i64.wrap (k / 2 + 1) = k / 2 + 1 := by rw [IntKind.wrap_i64]; omega
  have hw2 : IntKind.i64.wrap (k / 2) = k / 2 := by rw [IntKind.wrap_i64]; omega
  go_enter Try.func41, Try.ntmps41
  go_wp2_with fail
  refine (hn _).mono ?_
  rintro e w2 ⟨rfl, rfl⟩
  try dsimp only
  go_wp2_with fail
  go_ret
  exact ⟨by simp [ht, hw, hw2], rfl⟩

theorem ref_need (n : Int) (w : World) : Calls Try.prog 34 #[.int .i64 n] w (fun e w' => e = .returned (.int .i64 (clampI n / 2 + 1)) ∧ w' = w) := by
  have hn := ref_nodes n
  have hr := clampI_rng n
  generalize clampI n = k at *
  have ht : k.tdiv 2 = k / 2 := Int.tdiv_eq_ediv_of_nonneg (by omega)
  have hw : IntKind.i64.wrap (k / 2 + 1) = k / 2 + 1 := by rw [IntKind.wrap_i64]; omega
  have hw2 : IntKind.i64.wrap (k / 2) = k / 2 := by rw [IntKind.wrap_i64]; omega
  go_enter Try.func34, Try.ntmps34
  go_wp2_with fail
  refine (hn _).mono ?_
  rintro e w2 ⟨rfl, rfl⟩
  try dsimp only
  go_wp2_with fail
  go_ret
  exact ⟨by simp [ht, hw, hw2], rfl⟩

def ints (l : List Int) : List Value := l.map (Value.int .i64)
theorem ints_len (l : List Int) : (ints l).length = l.length := by simp [ints]
theorem ints_get {l : List Int} {k : Nat} {x : Int} (h : l[k]? = some x) : (ints l)[k]? = some (.int .i64 x) := by simp [ints, h]

set_option maxHeartbeats 1600000 in
theorem index_int {w : World} {B c : Nat} {A : Option Addr} {l : List Int} (h : Reads w B 1 A l.length (ints l)) (hl : l.length ≤ 1000000) (x : Int) :
    Calls Try.prog 39 #[.slice A l.length c, .int .i64 x] w (fun e w' => ∃ z : Int, e = .returned (.int .i64 z) ∧ Hid (0 ≤ z ↔ x ∈ l) ∧ w' = w) := by
  obtain ⟨N, hN⟩ : ∃ N, l.length = N := ⟨_, rfl⟩
  rw [hN] at h hl ⊢
  replace hN := Lib.hid hN
  replace h := Lib.hid h
  go_enter Try.func39, Try.ntmps39
  go_wp2_with fail
  go_loopw [8] (fun i wr => ∃ k : Nat, k ≤ N ∧ i = .int .i64 (k : Int) ∧ Hid (x ∉ l.take k) ∧ wr = w) (fun i _ => N - (intOf i).toNat)
  case atStart => exact ⟨0, Nat.zero_le _, rfl, Lib.hid (by simp), rfl⟩
  case round =>
    rename_i hrel
    obtain ⟨k, hk, rfl, hno, rfl⟩ := hrel
    by_cases hlt : k < N
    · have hlt' : k < l.length := by rw [hN.out]; exact hlt
      have hx : l[k]? = some l[k] := List.getElem?_eq_getElem _
      have htk : x ∈ l.take (k + 1) ↔ (x ∈ l.take k ∨ x = l[k]) := by rw [List.take_succ_eq_append_getElem hlt', List.mem_append, List.mem_singleton]
      have hin : l[k] ∈ l := List.getElem_mem hlt'
      generalize l[k] = y at hx htk hin
      obtain ⟨ad, u, rfl, -, hu, hc⟩ := h.out.at_ hlt
      rw [ints_get hx] at hu
      cases hu
      rw [← Nat.mul_one k] at hc
      have d2 : decide ((k : Int) < (N : Int)) = true := decide_eq_true (by omega)
      have hnw : IntKind.i64.wrap ((k : Int) + 1) = ((k + 1 : Nat) : Int) := by rw [IntKind.wrap_i64]; omega
      rw [Nat.mul_one] at hc
      replace htk := Lib.hid htk
      replace hin := Lib.hid hin
      clear hx
      by_cases hxy : x = y
      · subst hxy
        go_wp2_with fail
        go_ret
        exact ⟨_, rfl, Lib.hid ⟨fun _ => hin.out, fun _ => by omega⟩, rfl⟩
      · have d3 : (x == y) = false := by rw [beq_eq_false_iff_ne]; exact hxy
        go_wp2_with fail
        exact ⟨⟨k + 1, by omega, by simp [hnw], Lib.hid (fun hm => (htk.out.1 hm).elim hno.out hxy), by first | rfl | trivial⟩, by simp [intOf]; omega⟩
    · have hk' : k = N := by omega
      have hnl := hno.out
      rw [List.take_of_length_le (by rw [hN.out]; omega)] at hnl
      subst hk'
      replace hnl := Lib.hid hnl
      have d2 : decide ((k : Int) < (k : Int)) = false := decide_eq_false (by omega)
      go_wp2_with fail
      go_ret
      exact ⟨_, rfl, Lib.hid ⟨fun h => absurd h (by omega), fun h => absurd h hnl.out⟩, rfl⟩

theorem contains_int {w : World} {B c : Nat} {A : Option Addr} {l : List Int} (h : Reads w B 1 A l.length (ints l)) (hl : l.length ≤ 1000000) (x : Int) :
    Calls Try.prog 25 #[.slice A l.length c, .int .i64 x] w (fun e w' => e = .returned (.bool (decide (x ∈ l))) ∧ w' = w) := by
  have hidx := Lib.hid (index_int (c := c) h hl x)
  clear h
  go_enter Try.func25, Try.ntmps25
  go_wp2_with fail
  refine hidx.out.mono ?_
  rintro e w1 ⟨z, rfl, hz, rfl⟩
  dsimp only
  go_wp2_with fail
  go_ret
  refine ⟨?_, rfl⟩
  rw [← decide_eq_decide.2 hz.out]
  rfl

def cnt (l : List Int) (k : Nat) : Nat := (List.range k).countP fun i : Nat => decide ((i : Int) ∈ l)
theorem cnt_next (l : List Int) (k : Nat) : cnt l (k + 1) = cnt l k + (if decide ((k : Int) ∈ l) = true then 1 else 0) := by
  unfold cnt; rw [List.range_succ, List.countP_append]; simp [List.countP_cons]
theorem countP_mem : ∀ (l : List Int) (k : Nat), l.Nodup → (∀ x ∈ l, 0 ≤ x ∧ x < (k : Int)) → cnt l k = l.length
  | [], k, _, _ => by simp [cnt]
  | x :: l, k, hn, hr => by
    have hx := hr x (List.mem_cons_self ..)
    rw [List.nodup_cons] at hn
    have ih := countP_mem l k hn.2 (fun y hy => hr y (List.mem_cons_of_mem _ hy))
    obtain ⟨m, rfl⟩ : ∃ m : Nat, x = (m : Int) := ⟨x.toNat, by omega⟩
    have hm : m < k := by omega
    rw [List.length_cons, ← ih]
    have hone : ∀ j : Nat, cnt ((m : Int) :: l) j = cnt l j + (if m < j then 1 else 0) := by
      intro j
      induction j with
      | zero => simp [cnt]
      | succ j ih2 =>
        rw [cnt_next, cnt_next, ih2]
        simp only [List.mem_cons]
        by_cases hjm : (j : Int) = (m : Int)
        · have : j = m := by omega
          subst this
          simp [hn.1]
        · have h1 : ¬ j = m := by omega
          by_cases hl : (j : Int) ∈ l
          · simp [hl, hjm]
            split <;> split <;> omega
          · simp [hl, hjm, h1]
            split <;> split <;> omega
    rw [hone k, if_pos hm]

def hasB (n : Int) (k : Nat) : Bool := decide (clampI n / 2 + 1 ≤ (k : Int))

set_option maxHeartbeats 1600000 in
theorem q_has {w : World} {B c : Nat} {A : Option Addr} {l : List Int} {n : Int} (h : Reads w B 1 A l.length (ints l)) (hl : l.length ≤ 1000000) (hd : l.Nodup) (hr : ∀ x ∈ l, 0 ≤ x ∧ x < clampI n) :
    Calls Try.prog 26 #[.int .i64 n, .slice A l.length c] w (fun e w' => e = .returned (.bool (hasB n l.length)) ∧ w' = w) := by
  have hrng := clampI_rng n
  obtain ⟨K, hK⟩ : ∃ K : Nat, clampI n = (K : Int) := ⟨(clampI n).toNat, by omega⟩
  have hnd := fun w => q_nodes n w
  have hne := fun w => q_need n w
  have hco := fun x => contains_int (c := c) h hl x
  have hcnt := countP_mem l K hd (fun x hx => by have := hr x hx; omega)
  unfold hasB
  rw [hK] at hnd hne hrng ⊢
  generalize l.length = L at *
  have hnn : IntKind.i64.wrap (0 : Int) = 0 := rfl
  clear hr hd h hl hK
  replace hcnt := Lib.hid hcnt
  replace hnd := Lib.hid hnd
  replace hne := Lib.hid hne
  replace hco := Lib.hid hco
  go_enter Try.func26, Try.ntmps26
  go_wp2_with fail
  refine (hnd.out _).mono ?_
  rintro e w2 ⟨rfl, rfl⟩
  try dsimp only
  go_wp2_with fail
  go_loopw [5, 9] (fun s5 s9 wr => ∃ k m : Nat, s5 = .int .i64 (m : Int) ∧ s9 = .int .i64 (k : Int) ∧ k ≤ K ∧ m ≤ k ∧ Hid (cnt l k = m) ∧ wr = w2) (fun _ i _ => K - (intOf i).toNat)
  case atStart => exact ⟨0, 0, rfl, rfl, Nat.zero_le _, Nat.le_refl _, Lib.hid rfl, rfl⟩
  case round =>
    obtain ⟨k, m, rfl, rfl, hk, hmk, hm, rfl⟩ := hrel
    have hnw : IntKind.i64.wrap ((k : Int) + 1) = ((k + 1 : Nat) : Int) := by rw [IntKind.wrap_i64]; omega
    have hmw : IntKind.i64.wrap ((m : Int) + 1) = ((m + 1 : Nat) : Int) := by rw [IntKind.wrap_i64]; omega
    by_cases hlt : k < K
    · have d2 : decide ((k : Int) < (K : Int)) = true := decide_eq_true (by omega)
      have hst : cnt l (k + 1) = m + (if decide ((k : Int) ∈ l) = true then 1 else 0) := by
        rw [cnt_next, hm.out]
      have hcok := hco.out (k : Int)
      generalize decide ((k : Int) ∈ l) = q at hst hcok
      replace hst := Lib.hid hst
      go_wp2_with fail
      refine hcok.mono ?_
      clear hcok
      rintro e w3 ⟨rfl, rfl⟩
      try dsimp only
      cases q
      · go_wp2_with fail
        exact ⟨⟨k + 1, m, rfl, by simp [hnw], by omega, by omega, Lib.hid (by rw [hst.out]; simp), by first | rfl | trivial⟩, by simp [intOf]; omega⟩
      · go_wp2_with fail
        exact ⟨⟨k + 1, m + 1, by simp [hmw], by simp [hnw], by omega, by omega, Lib.hid (by rw [hst.out]; simp), by first | rfl | trivial⟩, by simp [intOf]; omega⟩
    · have hk' : k = K := by omega
      subst hk'
      have hmL : m = L := by rw [← hm.out]; exact hcnt.out
      have d2 : decide ((k : Int) < (k : Int)) = false := decide_eq_false (by omega)
      subst hmL
      go_wp2_with fail
      refine (hne.out _).mono ?_
      rintro e w3 ⟨rfl, rfl⟩
      try dsimp only
      go_wp2_with fail
      go_ret
      exact ⟨by simp, rfl⟩
end Go.Proofs.Ytfmmabkekjchjaa
