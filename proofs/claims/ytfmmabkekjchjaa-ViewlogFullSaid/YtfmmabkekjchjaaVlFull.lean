/- choirlaw26.ViewlogFull. -/
import Derived.Test.YtfmmabkekjchjaaVl10
import Derived.Deep.MidRow
import Derived.Laws.MakeOwn
set_option linter.unusedSimpArgs false
set_option linter.unusedVariables false
namespace Go.Proofs.Ytfmmabkekjchjaa
open Go.RowKit
set_option maxRecDepth 100000

def ents (k : Nat) : List (Nat × OpD) := (List.range k).map fun i => (1, ⟨7, i, 0, [], [], []⟩)
theorem ents_len (k : Nat) : (ents k).length = k := by simp [ents]
theorem ents_next (k : Nat) : ents (k + 1) = ents k ++ [(1, ⟨7, k, 0, [], [], []⟩)] := by simp [ents, List.range_succ]
theorem entRow_snoc (l : List (Nat × OpD)) (x : Nat × OpD) : entRow (l ++ [x]) = entRow l ++ entV x := by simp [entRow, List.flatMap_append]
theorem ents_any (k : Nat) (c s n : Nat) : (ents k).any (idE c s n) = decide (c = 7 ∧ s < k ∧ n = 0) := by
  rw [Bool.eq_iff_iff, List.any_eq_true, decide_eq_true_iff]
  constructor
  · rintro ⟨x, hx, h⟩
    simp only [ents, List.mem_map, List.mem_range] at hx
    obtain ⟨i, hi, rfl⟩ := hx
    simp only [idE, Bool.and_eq_true, beq_iff_eq] at h
    omega
  · rintro ⟨rfl, h, rfl⟩
    exact ⟨(1, ⟨7, s, 0, [], [], []⟩), by simp only [ents, List.mem_map, List.mem_range]; exact ⟨s, h, rfl⟩, by simp [idE]⟩
theorem run_make_rows {P : Program} (t e : TypeId) (i : TypeInfo) (z : Value) (sz by_ : Nat) (ht : P.underlying t = some (.slice e)) (hi : P.info? e = some i) (hz : i.zero = some z) (hs : i.size = sz) (hb : i.bytes = by_) (kl kc : IntKind) (n : Nat) (h48 : by_ * n ≤ 281474976710656) (h63 : n ≤ 9223372036854775807) (W : World) :
    ∃ cur : Array Value, cur.size = n * sz ∧ (Instr.makeSlice t (.int kl (n : Int)) (.int kc (n : Int))).run P W = .ok (.slice (some ⟨W.heap.size, 0, none⟩) n n) (W.alloc (.cells cur e)) := by
  subst hs hb
  have hb' : (i.bytes : Int) * (n : Int) ≤ 281474976710656 := by
    have h : ((i.bytes * n : Nat) : Int) ≤ 281474976710656 := by omega
    rwa [Int.natCast_mul] at h
  have hr := run_make (P := P) W t e i z ht hi hz kl kc n n (by omega) (by omega) hb' (by omega)
  simp only [Int.toNat_natCast] at hr
  exact ⟨_, size_madeCells _ _, hr⟩

set_option maxHeartbeats 12800000 in
theorem viewlogFull_walk (n : Int) (w : World) (h0 : 0 ≤ n) (h9 : n ≤ 255) : Calls Try.prog 5 #[.int .u8 n] w (fun e w' => e = .returned (.bool true) ∧ Below w.heap.size w w') := by
  obtain ⟨i0, hi, hz0, hz1, hz2⟩ := info_parts info_ent
  have hkn := fun W => known_true W
  obtain ⟨k5, hk5⟩ : ∃ k5 : Nat, n % 5 = (k5 : Int) := ⟨(n % 5).toNat, by omega⟩
  have t5 : n.tmod 5 = (k5 : Int) := by rw [Int.tmod_eq_emod_of_nonneg h0]; exact hk5
  have hk4 : k5 ≤ 4 := by omega
  have w5 : IntKind.u8.wrap (k5 : Int) = (k5 : Int) := by unfold IntKind.wrap; simp [IntKind.bits, IntKind.signed]; omega
  obtain ⟨k, hk⟩ : ∃ k : Nat, (398 : Int) + (k5 : Int) = (k : Int) := ⟨398 + k5, by omega⟩
  have hk1 : 398 ≤ k := by omega
  have hk2 : k ≤ 402 := by omega
  have wk : IntKind.i64.wrap (k : Int) = (k : Int) := by rw [IntKind.wrap_i64]; omega
  have hmk := fun W => run_make_rows (P := Try.prog) 29 54 i0 _ 7 80 Try.underlying29 hi hz0 hz1 hz2 .i64 .i64 k (by omega) (by omega) W
  replace hkn := Lib.hid hkn
  replace hmk := Lib.hid hmk
  clear hk5
  go_enter Try.func5, Try.ntmps5
  go_wp2_with fail
  refine (hkn.out _).mono ?_
  rintro e w1 ⟨rfl, hb1⟩
  try dsimp only
  obtain ⟨cur0, hcs0, hmk1⟩ := hmk.out w1
  have hg0 := Blk.new w1 54 cur0
  have hb2 := hb1.alloc hb1.size (.cells cur0 54)
  obtain ⟨g, hg⟩ : ∃ g, w1.heap.size = g := ⟨_, rfl⟩
  have hwg : w.heap.size ≤ g := by rw [← hg]; exact hb1.size
  rw [hg] at hg0 hmk1
  go_wp2_with fail
  generalize w1.alloc (.cells cur0 54) = w2 at *
  go_loopw [5] (fun s5 wr => ∃ (j : Nat) (cur : Array Value), s5 = .int .i64 (j : Int) ∧ j ≤ k ∧ Blk wr g 54 cur ∧ cur.size = k * 7 ∧ Hid (cur.toList.take (j * 7) = entRow (ents j)) ∧ Below w.heap.size w wr) (fun i _ => k - (intOf i).toNat)
  case atStart => exact ⟨0, cur0, rfl, Nat.zero_le _, hg0, hcs0, Lib.hid (by simp [ents, entRow]), hb2⟩
  case round =>
    obtain ⟨j, cur, rfl, hj, hgr, hcs, htk, hbr⟩ := hrel
    have hnw : IntKind.i64.wrap ((j : Int) + 1) = ((j + 1 : Nat) : Int) := by rw [IntKind.wrap_i64]; omega
    by_cases hlt : j < k
    · have d2 : decide ((j : Int) < (k : Int)) = true := decide_eq_true (by omega)
      have wj : IntKind.u32.wrap (j : Int) = (j : Int) := by unfold IntKind.wrap; simp [IntKind.bits, IntKind.signed]; omega
      have hfit : j * 7 + (#[.int .u64 1, .int .u32 7, .int .u32 (j : Int), .int .u16 0, .string ⟨#[]⟩, .string ⟨#[]⟩, .slice none 0 0] : Array Value).toList.length ≤ cur.size := by rw [hcs]; show j * 7 + 7 ≤ k * 7; omega
      have hth : wr.there g (j * 7) (#[.int .u64 1, .int .u32 7, .int .u32 (j : Int), .int .u16 0, .string ⟨#[]⟩, .string ⟨#[]⟩, .slice none 0 0] : Array Value).size := fun i hi => by
        have hi' : i < 7 := hi
        refine ⟨?_, hgr.frozen _⟩
        rw [hgr.cell]
        rw [Array.getElem?_eq_getElem (by rw [hcs]; omega)]
        rfl
      obtain ⟨cur', q1, q2, q3⟩ := setCells_eq_setRow g (j * 7) 54 (#[.int .u64 1, .int .u32 7, .int .u32 (j : Int), .int .u16 0, .string ⟨#[]⟩, .string ⟨#[]⟩, .slice none 0 0] : Array Value).toList cur wr hgr hfit
      obtain ⟨s1, s2, s3, s4⟩ := setCells_same g (j * 7) (#[.int .u64 1, .int .u32 7, .int .u32 (j : Int), .int .u16 0, .string ⟨#[]⟩, .string ⟨#[]⟩, .slice none 0 0] : Array Value).toList wr
      have hb3 : Below w.heap.size w (wr.setCells g (j * 7) (#[.int .u64 1, .int .u32 7, .int .u32 (j : Int), .int .u16 0, .string ⟨#[]⟩, .string ⟨#[]⟩, .slice none 0 0] : Array Value).toList) := ⟨s1.trans hbr.os, s2.trans hbr.tape, s3.trans hbr.output, by rw [s4]; exact hbr.size, fun x hx => (setCells_other g _ x (by omega) _ wr).trans (hbr.block x hx)⟩
      have htk' : cur'.toList.take ((j + 1) * 7) = entRow (ents (j + 1)) := by
        rw [q3, ents_next, entRow_snoc, ← htk.out, Nat.succ_mul]
        have hl : (cur.toList.take (j * 7) ++ (#[.int .u64 1, .int .u32 7, .int .u32 (j : Int), .int .u16 0, .string ⟨#[]⟩, .string ⟨#[]⟩, .slice none 0 0] : Array Value).toList).length = j * 7 + 7 := by
          rw [List.length_append, List.length_take, Array.length_toList, hcs, Nat.min_eq_left (by omega)]; rfl
        rw [List.take_append_of_le_length (by rw [hl]; exact Nat.le_refl _), List.take_of_length_le (by rw [hl]; exact Nat.le_refl _)]
        rfl
      replace htk' := Lib.hid htk'
      clear hfit q3 s1 s2 s3 s4 htk
      go_upto_region 8 with (fail)
      go_wp2_with (refine wpList_store_mid rfl 54 _ _ rfl g (j * 7) #[.int .u64 1, .int .u32 7, .int .u32 (j : Int), .int .u16 0, .string ⟨#[]⟩, .string ⟨#[]⟩, .slice none 0 0] (by simp [go_sem, Addr.add_mid]) (by simp [go_sem]) hth (by kernel_rfl) (by simp [Value.oneCell']) ?_; generalize wr.setCells g (j * 7) (#[.int .u64 1, .int .u32 7, .int .u32 (j : Int), .int .u16 0, .string ⟨#[]⟩, .string ⟨#[]⟩, .slice none 0 0] : Array Value).toList = w3 at *)
      exact ⟨⟨j + 1, cur', by simp [hnw], by omega, q1, by rw [q2, hcs], htk', hb3⟩, by simp [intOf]; omega⟩
    · have hj' : j = k := by omega
      subst hj'
      have d2 : decide ((j : Int) < (j : Int)) = false := decide_eq_false (by omega)
      have hown : Own wr 54 7 (some ⟨g, 0, none⟩) j j (entRow (ents j)) := ⟨by rw [entRow_len, ents_len], .inr ⟨g, cur, rfl, hgr, Nat.le_refl _, by unfold maxLen; omega, by omega, htk.out⟩⟩
      have hLr := logR_flat (l := ents j) (c := j) (by rw [ents_len]; exact hown.reads_) (by rw [ents_len]; exact Nat.le_refl _) (by simp) (by intro x hx; simp only [ents, List.mem_map, List.mem_range] at hx; obtain ⟨i, hi, rfl⟩ := hx; exact ⟨rfl, by show 1 < _; decide, by show 7 < _; decide, by show i < _; omega, by show 0 < _; decide⟩)
      obtain ⟨j', hj'⟩ : ∃ j', j = j' + 1 := ⟨j - 1, by omega⟩
      have hjm : (j : Int) - 1 = (j' : Int) := by omega
      have hjlt : j' < j := by omega
      have hxl : (ents j)[j']? = some (1, ⟨7, j', 0, [], [], []⟩) := by simp [ents, hjlt]
      have hcs1 : ((((ents j)[j']?).map fun x => ((entV x).drop 1).toArray).getD #[]) = #[.int .u32 7, .int .u32 (j' : Int), .int .u16 0, .string (bstr []), .string (bstr []), .slice none 0 0] := by rw [hxl]; rfl
      have hce := fun W (hW : Below wr.heap.size wr W) => (hLr.below hW).cells7 hxl hcs1
      have hrp := vl_repair (su := 0) (LogR.nil wr wr.heap.size) hLr (Nat.le_refl _) (by decide) (by rw [ents_len]; omega)
      have hf1 := fun W (hW : Below wr.heap.size wr W) => vl_fresh (w := W) (oc := 0) (os_ := 0) (on := 0) (oL := 0) (occ := 0) (og := ⟨#[]⟩) (om := ⟨#[]⟩) (oA := none) (hLr.below hW) hW.size (by rw [ents_len]; omega)
      have hf2 := fun W (hW : Below wr.heap.size wr W) => vl_fresh (w := W) (oc := 7) (os_ := j') (on := 0) (oL := 0) (occ := 0) (og := ⟨#[]⟩) (om := ⟨#[]⟩) (oA := none) (hLr.below hW) hW.size (by rw [ents_len]; omega)
      have e1 : freshB (ents j) 0 0 0 = decide (j < 400) := by unfold freshB; rw [ents_any, ents_len]; simp
      have e2 : freshB (ents j) 7 j' 0 = false := by unfold freshB; rw [ents_any, ents_len]; simp [hjlt]
      have e3 : repOk [] (ents j) 0 = decide (j ≤ 400) := by
        unfold repOk
        rw [ents_len, show sameN [] (ents j) = 0 from by cases ents j <;> rfl]
        by_cases h : j ≤ 400
        · simp [h]
        · simp [h]; omega
      have e4 : (ents j).length - sameN [] (ents j) = j := by rw [ents_len, show sameN [] (ents j) = 0 from by cases ents j <;> rfl]; omega
      have e5 : sameN [] (ents j) = 0 := by cases ents j <;> rfl
      unfold RepVl at hrp
      rw [e3, ents_len, e5] at hrp
      rw [e1, ents_len] at hf1
      rw [e2, ents_len] at hf2
      rw [show bstr [] = ⟨#[]⟩ from rfl] at hce
      have hce' : ∀ W, Below wr.heap.size wr W → W.cell? ⟨g, j' * 7 + 1, none⟩ = some (.int .u32 7) ∧ W.cell? ⟨g, j' * 7 + 1 + 1, none⟩ = some (.int .u32 (j' : Int)) ∧ W.cell? ⟨g, j' * 7 + 1 + 2, none⟩ = some (.int .u16 0) ∧ W.cell? ⟨g, j' * 7 + 1 + 3, none⟩ = some (.string ⟨#[]⟩) ∧ W.cell? ⟨g, j' * 7 + 1 + 4, none⟩ = some (.string ⟨#[]⟩) ∧ W.cell? ⟨g, j' * 7 + 1 + 5, none⟩ = some (.slice none 0 0) := fun W hW => by
        obtain ⟨-, a1, a2, a3, a4, a5, a6⟩ := hce W hW
        rw [add_row] at a1 a2 a3 a4 a5 a6
        exact ⟨a1, a2, a3, a4, a5, a6⟩
      clear hce
      have hce := hce'
      clear hce'
      replace hce := Lib.hid hce
      replace hrp := Lib.hid hrp
      replace hf1 := Lib.hid hf1
      replace hf2 := Lib.hid hf2
      clear hcs1 hxl hLr hown e1 e2 e3 e4 e5 htk hgr hcs
      replace hj' := Lib.hid hj'
      go_wp2_with fail
      refine hrp.out.mono ?_
      rintro e w3 ⟨hb3, hres⟩
      have hb4 := below_then hb3 hbr
      have hc3 := hce.out _ hb3
      rcases hres with ⟨hok, rfl⟩ | ⟨hok, A3, c3, xs3, css3, rfl, P3⟩
      · have hgt : ¬ j ≤ 400 := fun h => by rw [decide_eq_true h] at hok; cases hok
        have d3 : decide ((j : Int) ≤ 400) = false := decide_eq_false (by omega)
        have d4 : decide ((j : Int) < 400) = false := decide_eq_false (by omega)
        have h4 : decide (j < 400) = false := decide_eq_false (by omega)
        have d5 : decide (j ≤ 400) = false := decide_eq_false hgt
        clear hok
        try dsimp only
        go_wp2_with fail
        refine (hf1.out _ hb3).mono ?_
        rintro e w5 ⟨rfl, hb5⟩
        try dsimp only
        rw [h4]
        have hb6 := below_then hb5 hb3
        have hc6 := hce.out _ hb6
        clear hc3
        go_wp2_with fail
        refine (hf2.out _ hb6).mono ?_
        rintro e w7 ⟨rfl, hb7⟩
        try dsimp only
        have hb8 := below_then hb7 (below_then hb6 hbr)
        go_wp2_with fail
        go_ret
        exact ⟨rfl, hb8⟩
      · have hle : j ≤ 400 := of_decide_eq_true hok
        have d3 : decide ((j : Int) ≤ 400) = true := decide_eq_true (by omega)
        have d5 : decide (j ≤ 400) = true := decide_eq_true hle
        clear hok P3
        rw [show j - 0 = j from Nat.sub_zero j]
        try dsimp only
        by_cases hlt4 : j < 400
        · have d4 : decide ((j : Int) < 400) = true := decide_eq_true (by omega)
          have h4 : decide (j < 400) = true := decide_eq_true hlt4
          go_wp2_with fail
          refine (hf1.out _ hb3).mono ?_
          rintro e w5 ⟨rfl, hb5⟩
          try dsimp only
          rw [h4]
          have hb6 := below_then hb5 hb3
          have hc6 := hce.out _ hb6
          clear hc3
          go_wp2_with fail
          refine (hf2.out _ hb6).mono ?_
          rintro e w7 ⟨rfl, hb7⟩
          try dsimp only
          have hb8 := below_then hb7 (below_then hb6 hbr)
          go_wp2_with fail
          go_ret
          exact ⟨rfl, hb8⟩
        · have d4 : decide ((j : Int) < 400) = false := decide_eq_false (by omega)
          have h4 : decide (j < 400) = false := decide_eq_false hlt4
          go_wp2_with fail
          refine (hf1.out _ hb3).mono ?_
          rintro e w5 ⟨rfl, hb5⟩
          try dsimp only
          rw [h4]
          have hb6 := below_then hb5 hb3
          have hc6 := hce.out _ hb6
          clear hc3
          go_wp2_with fail
          refine (hf2.out _ hb6).mono ?_
          rintro e w7 ⟨rfl, hb7⟩
          try dsimp only
          have hb8 := below_then hb7 (below_then hb6 hbr)
          go_wp2_with fail
          go_ret
          exact ⟨rfl, hb8⟩
end Go.Proofs.Ytfmmabkekjchjaa
