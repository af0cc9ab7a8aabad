/- VoteMajority: a majority of like replies; the walk. -/
import Derived.Test.YtiajbcfelhlapaaMaj
import Derived.Test.YtiajbcfelhlapaaVoteStays
namespace Go.Proofs.Ytiajbcfelhlapaa
open Go.RowKit Go.Maps

theorem omap_upd {K : TypeId} {E : Value → Option (DataW Unit × List MemPlace)} {S : Nat → Prop} {w w' : World} {b n : Nat} {D : DataW Unit} (h : w.ownsMap Try.prog K E b n D) (hu : Upd S w w') (hs : ¬ S b) : w'.ownsMap Try.prog K E b n D := by
  have hlt := h.lt
  obtain ⟨es, clock, hb, F, hc, hD⟩ := h
  exact ⟨es, clock, (hu.block b hlt hs).trans hb, F, hc, hD⟩
theorem vat_upd {w w' : World} {b p : Nat} {c s n nn pol : Int} {who : List Int} {L : List FR} {D : Option FR} {Aw Al : Option Addr} {cw cl : Nat} {xs : List Value} {S : Nat → Prop} (h : VAt w b p c s n nn pol who L D Aw Al cw cl xs) (hu : Upd S w w') (hp : ¬ S p) (hb : ∀ k, b ≤ k → ¬ S k) : VAt w' b p c s n nn pol who L D Aw Al cw cl xs :=
  ⟨h.blk.upd hu hp, h.hw.upd hu (fun k hk => hb k (h.hAw k hk)), h.hl.upd hu (fun k hk => hb k (h.hAl k hk)), h.hx, h.hD, h.hp, h.hAw, h.hAl⟩

theorem wrap64_small (n : Int) (h : -9223372036854775808 ≤ n ∧ n ≤ 9223372036854775807) : wrap64 n = n := by unfold wrap64; omega
def turned (t nn : Int) (i : Nat) : List Int := (List.range i).map fun (a : Nat) => ((a : Int) + t) % nn
theorem turned_snoc (t nn : Int) (i : Nat) : turned t nn i ++ [((i : Int) + t) % nn] = turned t nn (i + 1) := by
  unfold turned
  rw [List.range_succ, List.map_append]; rfl
theorem turned_new (t nn : Int) (i : Nat) (hi : (i : Int) < nn) : ((i : Int) + t) % nn ∉ turned t nn i := by
  unfold turned
  intro h
  obtain ⟨a, ha, he⟩ := List.mem_map.1 h
  have ha' := List.mem_range.1 ha
  have h1 : (((i : Int) + t) - ((a : Int) + t)) % nn = 0 := Int.emod_eq_emod_iff_emod_sub_eq_zero.1 he.symm
  have h2 : ((i : Int) + t) - ((a : Int) + t) = ((i : Int) - a) := by omega
  rw [h2, Int.emod_eq_of_lt (by omega) (by omega)] at h1
  omega
theorem turned_len (t nn : Int) (i : Nat) : (turned t nn i).length = i := by simp [turned]
theorem law64 : Keyed Try.prog 2 := int_keyed Try.underlying2
theorem zeroInt (w : World) : (zeroValue 3).run Try.prog w = .ok (.int .i64 0) w := by kernel_rfl

structure MRel (w : World) (mb p ib : Nat) (nn t : Int) (wr : World) (i : Nat) (is : List Int) (D : Option FR) (Dm : DataW Unit) (Aw Al : Option Addr) (cw cl : Nat) (xs : List Value) : Prop where
  V : VAt wr (mb + 1) p 1 1 0 nn 1 (turned t nn i) (recs is) D Aw Al cw cl xs
  il : is.length = i
  rng : ∀ x ∈ is, 0 ≤ x ∧ x < 3
  inv : MInv (needOf 1 nn) is D
  own : wr.ownsMap Try.prog 2 (plainElem Try.prog 3) mb i Dm
  cnt : Counts Dm is
  id : Blk wr ib 25 #[.int .u32 1, .int .u32 1, .int .u16 0]
  hB : Below w.heap.size w wr
  hs : mb + 1 ≤ wr.heap.size

set_option maxHeartbeats 6400000 in
theorem voteMajority_walk (x0 x2 : Int) (A : Option Addr) (c : Nat) (l : List UInt8) (w : World) (h00 : 0 ≤ x0) (h01 : x0 ≤ 255) (h20 : 0 ≤ x2) (h21 : x2 ≤ 255) (hr : Reads w w.heap.size 1 A l.length (bys l)) (hl : l.length ≤ 140737488351232) :
    Calls Try.prog 5 #[.int .u8 x0, .slice A l.length c, .int .u8 x2] w (SaysTrue w) := by
  have hsf := fun a k x m w => run_store_float (P := Try.prog) a k x m w
  have hmm := @run_makeMap Try.prog
  go_enter Try.func5, Try.ntmps5
  go_wp2_with fail
  refine (known_true _).mono ?_
  rintro e w1 ⟨rfl, hb1⟩
  dsimp only
  obtain ⟨nn, hnn⟩ : ∃ nn, x0 % 7 + 1 = nn := ⟨_, rfl⟩
  have hn1 : 1 ≤ nn := by omega
  have hn7 : nn ≤ 7 := by omega
  by_cases hk : (l.length : Int) < nn
  · have hd : decide ((l.length : Int) < x0 % 7 + 1) = true := decide_eq_true (by omega)
    go_wp2_with fail
    go_ret
    exact ⟨rfl, hb1⟩
  have hd : decide ((l.length : Int) < x0 % 7 + 1) = false := decide_eq_false (by omega)
  have hid := Blk.new w1 25 #[.int .u32 1, .int .u32 1, .int .u16 0]
  have hb2 := hb1.alloc hb1.size (.cells #[.int .u32 1, .int .u32 1, .int .u16 0] 25)
  obtain ⟨i0, i1, i2⟩ := hid.id3
  go_wp2_with fail
  clear hd hnn
  refine (new_flat 1 1 0 nn 1 _ hn1 hn7).mono ?_
  rintro e w2 ⟨p, rfl, V2, hbn, hbp⟩
  dsimp only
  have hid2 := hid.below hbn hid.lt
  have hb2' := below_then hbn hb2
  clear hb2 hid i0 i1 i2
  go_wp2_with fail
  have V3 := V2.below ((Below.refl w2.heap.size w2).alloc (Nat.le_refl _) (.map #[] 0))
  have hid3 := hid2.alloc (.map #[] 0)
  have hb3 := hb2'.alloc hb2'.size (.map #[] 0)
  have hm3 := World.ownsMap_made w2 Try.prog 2 (plainElem (H := Unit) Try.prog 3)
  have hpm : p < w2.heap.size := V2.blk.lt
  have him : w1.heap.size < w2.heap.size := hid2.lt
  have hip : w1.heap.size < p := by rw [World.size_alloc] at hbp; omega
  have V4 : VAt (w2.alloc (.map #[] 0)) (w2.heap.size + 1) p 1 1 0 nn 1 [] [] none none none 0 0 [] := ⟨V3.blk, Own.none_, Own.none_, by simp, by simp, trivial, by simp [bOf], by simp [bOf]⟩
  have hlo : w.heap.size ≤ w2.heap.size := hb2'.size
  have hio : w.heap.size ≤ w1.heap.size := hb1.size
  have hws : w2.heap.size + 1 ≤ (w2.alloc (.map #[] 0)).heap.size := by simp
  clear V2 V3 hid2 hb2' hbn hbp hb1
  generalize w2.heap.size = mb at *
  generalize w1.heap.size = ib at *
  generalize w2.alloc (.map #[] 0) = ws at *
  go_loopw [11, 12, 13] (fun i j x wr => ∃ (n : Nat) (is : List Int) (D : Option FR) (Dm : DataW Unit) (Aw Al : Option Addr) (cw cl : Nat) (xs : List Value), (n : Int) ≤ nn ∧ i = .int .i64 (n : Int) ∧ MRel w mb p ib nn x2 wr n is D Dm Aw Al cw cl xs) (fun i _ _ _ => nn.toNat - (intOf i).toNat)
  case atStart => exact ⟨0, [], none, .map [], none, none, 0, 0, [], by omega, rfl, V4, rfl, by simp, MInv.nil _, hm3, Counts.nil, hid3, hb3, hws⟩
  case round =>
    rename_i hrel
    obtain ⟨n, is, D, Dm, Aw, Al, cw, cl, xs, hj, rfl, R⟩ := hrel
    by_cases hlt : (n : Int) < nn
    · have hd : decide ((n : Int) < nn) = true := decide_eq_true hlt
      have hjt : Int.tmod ((n : Int) + x2) nn = ((n : Int) + x2) % nn := Int.tmod_eq_emod_of_nonneg (by omega)
      obtain ⟨j, hjn⟩ : ∃ j : Nat, ((n : Int) + x2) % nn = (j : Int) := ⟨(((n : Int) + x2) % nn).toNat, by have := Int.emod_nonneg ((n : Int) + x2) (b := nn) (by omega); omega⟩
      have hjk : (j : Int) < nn := by rw [← hjn]; exact Int.emod_lt_of_pos _ (by omega)
      have hjl : j < l.length := by omega
      rw [hjn] at hjt
      have hnew := turned_new x2 nn n hlt
      have hsn := turned_snoc x2 nn n
      rw [hjn] at hnew hsn
      obtain ⟨ad, u, rfl, had, hu, hc⟩ := (hr.below R.hB).at_ hjl
      simp only [bys, byv, List.getElem?_map, List.getElem?_eq_getElem hjl, Option.map_some, Option.some.injEq] at hu
      subst hu
      have hy := l[j].toNat_lt
      generalize l[j].toNat = yb at *
      have hown := R.own
      have hwfy : (Lit.int .i64 ((yb : Int) % 3)).wf = true := by have h := wrap64_wf ((yb : Int) % 3); rwa [wrap64_small _ ⟨by omega, by omega⟩] at h
      go_wp2_with (first | (at_lookup; refine wpList_lookup_own_int _ rfl _ _ 49 rfl 2 3 .i64 law64 Try.underlying49 Try.underlying3 (zeroInt _) mb n _ rfl hown _ _ rfl (keyOf_int_mk Try.underlying2 (a := (yb : Int) % 3) hwfy) ?_; intro cc hat hwc) | (at_mapUpdate; refine wpList_mapUpdate_own _ rfl _ _ _ 49 rfl 2 3 law64 Try.underlying49 _ mb n _ rfl hown (by unfold maxLen; omega) _ _ _ rfl rfl (keyOf_int_mk Try.underlying2 (a := (yb : Int) % 3) hwfy) _ [] (plainElem_int Try.underlying3 (wrap64_wf _)) ?_; intro w5 hown5 hgrow5) | fail)
      obtain ⟨yi, hyi⟩ : ∃ yi : Int, (yb : Int) % 3 = yi := ⟨_, rfl⟩
      have hy0 : 0 ≤ yi := by omega
      have hy3 : yi < 3 := by omega
      rw [hyi] at hat hown5
      have hcc : cc = (is.count yi : Int) := by
        have := hat.symm.trans (R.cnt.2 yi)
        injection this with this
        injection this
      have hcl : is.count yi ≤ n := by have := List.count_le_length (a := yi) (l := is); have := R.il; omega
      have hw5 : wrap64 (cc + 1) = (is.count yi : Int) + 1 := by rw [hcc]; exact wrap64_small _ ⟨by omega, by omega⟩
      rw [hw5] at hown5
      have hu5 : Upd (fun g => g = mb) wr w5 := (Upd.refl (fun g => g = mb) wr).grown hgrow5 (fun k hk _ => by cases hk; rfl)
      have V5 := vat_upd R.V hu5 (fun e => by omega) (fun k hk e => by omega)
      have id5 := R.id.upd hu5 (fun e => by omega)
      have hB5 := R.hB.trans (hu5.below (B := w.heap.size) R.hB.size (fun k hk e => by omega))
      have hs5 := Nat.le_trans R.hs hu5.size
      have cnt5 := R.cnt.step yi rfl
      have inv5 := R.inv.step yi
      have rng5 : ∀ x ∈ is ++ [yi], 0 ≤ x ∧ x < 3 := fun x hx => by
        rcases List.mem_append.1 hx with h | h
        · exact R.rng x h
        · have : x = yi := by simpa using h
          omega
      have il5 : (is ++ [yi]).length = n + 1 := by have := R.il; simp; omega
      have hll : (recs is).length ≤ 100 := by unfold recs; rw [List.length_map, R.il]; omega
      clear R hu5 hgrow5 hown hat hw5 hcc hwc hc had
      have hS : w5.drew.cell? ⟨ib, 0, none⟩ = some (.int .u32 1) ∧ w5.drew.cell? ⟨ib, 1, none⟩ = some (.int .u32 1) ∧ w5.drew.cell? ⟨ib, 2, none⟩ = some (.int .u16 0) := id5.id3
      refine wp_region_lex (fun W => W.cell? ⟨ib, 0, none⟩ = some (.int .u32 1) ∧ W.cell? ⟨ib, 1, none⟩ = some (.int .u32 1) ∧ W.cell? ⟨ib, 2, none⟩ = some (.int .u16 0)) [2] [4, 6] [0, 1, 2, 3, 4, 5, 6, 7] (by kernel_rfl) rfl (by kernel_rfl) (by kernel_rfl) (fun _ _ d _ _ h => by cases d <;> exact h) ?_
      repeat (first | (refine lexG_take _ ?_ rfl rfl rfl rfl (fun _ => ?_) ?_; rotate_left; (focus (go_simp; with_reducible rfl)); try simp only [Act.put, List.setIfInBounds_toArray, List.set_cons_zero, List.set_cons_succ]) | (refine lexG_held _ ?_ rfl rfl rfl rfl (by assumption) (fun _ hSw => ?_) ?_; rotate_left; (focus ((try dsimp only at hSw); go_simp; with_reducible rfl)); try simp only [Act.put, List.setIfInBounds_toArray, List.set_cons_zero, List.set_cons_succ]) | (refine lexG_skip _ rfl rfl (by assumption) ?_; try simp only [Act.put, List.setIfInBounds_toArray, List.set_cons_zero, List.set_cons_succ]))
      refine lexG_now _ rfl rfl rfl (fun K hK => ?_)
      go_wp2_with fail
      rw [hyi]
      refine (int_ref yi _).mono ?_
      rintro e w6 ⟨rfl, hb6⟩
      dsimp only
      have hb6' : Below w5.heap.size w5 w6 := below_of_drew hb6
      have V6 := V5.below hb6'
      have id6 := id5.below hb6' id5.lt
      have own6 := omap_upd hown5 (Upd.of_below_size (S := fun _ => False) hb6') (fun h => h)
      have hB6 := hB5.trans (hb6'.mono hB5.size)
      have hs6 := Nat.le_trans hs5 hb6'.size
      refine hK _ _ _ (fun _ h => h) id6.id3 ?_
      clear hK K hS hb6 V5 id5 hown5 hB5 hs5 hb6'
      try simp only [Act.put, List.setIfInBounds_toArray, List.set_cons_zero, List.set_cons_succ]
      repeat (first | (refine lexG_take _ ?_ rfl rfl rfl rfl (fun _ => ?_) ?_; rotate_left; (focus (go_simp; with_reducible rfl)); try simp only [Act.put, List.setIfInBounds_toArray, List.set_cons_zero, List.set_cons_succ]) | (refine lexG_held _ ?_ rfl rfl rfl rfl (by assumption) (fun _ hSw => ?_) ?_; rotate_left; (focus ((try dsimp only at hSw); go_simp; with_reducible rfl)); try simp only [Act.put, List.setIfInBounds_toArray, List.set_cons_zero, List.set_cons_succ]) | (refine lexG_skip _ rfl rfl (by assumption) ?_; try simp only [Act.put, List.setIfInBounds_toArray, List.set_cons_zero, List.set_cons_succ]))
      refine lexG_now _ rfl rfl rfl (fun K hK => ?_)
      go_wp2_with fail
      refine (put_ok V6 (j : Int) ⟨0, 1, yi, 0⟩ (by omega) hjk hnew (.inr (.inl ⟨rfl, rfl⟩)) (by rw [turned_len]; omega) hll hn1 hn7 hs6).mono ?_
      rintro e w7 ⟨rfl, ⟨Aw', Al', cw', cl', xs', V7⟩, hu7⟩
      dsimp only
      have id7 := id6.upd hu7 (fun h => by rcases h with h | h | h; omega; (have := V6.hAw _ h.symm; omega); (have := V6.hAl _ h.symm; omega))
      have own7 := omap_upd own6 hu7 (fun h => by rcases h with h | h | h; omega; (have := V6.hAw _ h.symm; omega); (have := V6.hAl _ h.symm; omega))
      have hB7 := hB6.trans (hu7.below (B := w.heap.size) hB6.size (fun k hk h => by rcases h with h | h | h; omega; (have := V6.hAw k h.symm; omega); (have := V6.hAl k h.symm; omega)))
      have hs7 := Nat.le_trans hs6 hu7.size
      have V8 : VAt w7 (mb + 1) p 1 1 0 nn 1 (turned x2 nn (n + 1)) (recs (is ++ [yi])) (nextD 1 nn D (recs (is ++ [yi]))) Aw' Al' cw' cl' xs' := by
        rw [← hsn, ← recs_snoc]; exact V7
      refine hK _ _ _ (fun _ h => h) id7.id3 ?_
      clear hK K V6 V7 id6 own6 hB6 hs6 hu7 hnew hsn
      try simp only [Act.put, List.setIfInBounds_toArray, List.set_cons_zero, List.set_cons_succ]
      repeat (first | (refine lexG_take _ ?_ rfl rfl rfl rfl (fun _ => ?_) ?_; rotate_left; (focus (go_simp; with_reducible rfl)); try simp only [Act.put, List.setIfInBounds_toArray, List.set_cons_zero, List.set_cons_succ]) | (refine lexG_held _ ?_ rfl rfl rfl rfl (by assumption) (fun _ hSw => ?_) ?_; rotate_left; (focus ((try dsimp only at hSw); go_simp; with_reducible rfl)); try simp only [Act.put, List.setIfInBounds_toArray, List.set_cons_zero, List.set_cons_succ]) | (refine lexG_skip _ rfl rfl (by assumption) ?_; try simp only [Act.put, List.setIfInBounds_toArray, List.set_cons_zero, List.set_cons_succ]))
      refine lexG_nil ?_
      go_wp2_with fail
      go_roundw
      case rel => exact ⟨n + 1, is ++ [yi], _, _, Aw', Al', cw', cl', xs', by omega, by simp, V8, il5, rng5, inv5, own7, cnt5, id7, hB7, hs7⟩
      case measure => simp [intOf]; omega
    · have hnn : (n : Int) = nn := by omega
      have hd : decide ((n : Int) < nn) = false := decide_eq_false hlt
      subst hnn
      have own6 := R.own
      have cnt6 := R.cnt
      have inv6 := R.inv
      have rng6 := R.rng
      have il6 := R.il
      have hB6 := R.hB
      have V6 := R.V
      clear R
      go_wp2_with fail
      cases D with
      | none =>
        refine (result_no V6).mono ?_
        rintro e w7 ⟨rfl, hb7⟩
        dsimp only [resD]
        have own7 := omap_upd own6 (Upd.of_below_size (S := fun _ => False) hb7) (fun h => h)
        have hB7 := hB6.trans (hb7.mono hB6.size)
        clear V6 own6 hB6 hb7
        have own8 := own7.alloc (.cells #[.int .u32 0, .int .u32 0, .int .u16 0, .int .i64 0, .int .i64 0, .int .i64 0, .float .f64 0, .string ⟨#[]⟩, .slice none 0 0] 32)
        have r8 := Blk.new w7 32 #[.int .u32 0, .int .u32 0, .int .u16 0, .int .i64 0, .int .i64 0, .int .i64 0, .float .f64 0, .string ⟨#[]⟩, .slice none 0 0]
        have hB8 := hB7.alloc hB7.size (.cells #[.int .u32 0, .int .u32 0, .int .u16 0, .int .i64 0, .int .i64 0, .int .i64 0, .float .f64 0, .string ⟨#[]⟩, .slice none 0 0] 32)
        clear own7 hB7
        go_wp2_with fail
        generalize w7.heap.size = rb at *
        generalize w7.alloc (.cells #[.int .u32 0, .int .u32 0, .int .u16 0, .int .i64 0, .int .i64 0, .int .i64 0, .float .f64 0, .string ⟨#[]⟩, .slice none 0 0] 32) = w8 at *
        go_loopw [16] (fun xv wq => ∃ x : Nat, x ≤ 3 ∧ xv = .int .i64 (x : Int) ∧ (∀ y : Int, 0 ≤ y → y < x → ¬ (n : Int) / 2 + 1 ≤ (is.count y : Int)) ∧ wq.ownsMap Try.prog 2 (plainElem Try.prog 3) mb n Dm ∧ Blk wq rb 32 #[.int .u32 0, .int .u32 0, .int .u16 0, .int .i64 0, .int .i64 0, .int .i64 0, .float .f64 0, .string ⟨#[]⟩, .slice none 0 0] ∧ Below w.heap.size w wq) (fun xv _ => 3 - (intOf xv).toNat)
        case atStart => exact ⟨0, by omega, rfl, fun y h1 h2 => by omega, own8, r8, hB8⟩
        case round =>
          rename_i hrel
          obtain ⟨x, hx, rfl, hno, ownq, rq, hBq⟩ := hrel
          by_cases hx3 : x < 3
          · have hd3 : decide ((x : Int) < 3) = true := decide_eq_true (by omega)
            have hwfx : (Lit.int .i64 (x : Int)).wf = true := by have h := wrap64_wf (x : Int); rwa [wrap64_small _ ⟨by omega, by omega⟩] at h
            go_wp2_with fail
            obtain ⟨cc, hrun, hat, hwc⟩ := ownq.drew.lookup_int law64 Try.underlying49 Try.underlying3 (zeroInt _) (keyOf_int_mk Try.underlying2 (a := (x : Int)) hwfx)
            have hcc : cc = (is.count (x : Int) : Int) := by
              have := hat.symm.trans (cnt6.2 (x : Int))
              injection this with this
              injection this
            subst hcc
            have hBd : Below w.heap.size w wr.drew := ⟨hBq.os, hBq.tape, hBq.output, hBq.size, hBq.block⟩
            have rqd : Blk wr.drew rb 32 #[.int .u32 0, .int .u32 0, .int .u16 0, .int .i64 0, .int .i64 0, .int .i64 0, .float .f64 0, .string ⟨#[]⟩, .slice none 0 0] := rq
            have ownd := ownq.drew
            refine wp_region_lex (fun W => (Instr.lookup 49 (.map (some mb)) (.int .i64 (x : Int)) false).run Try.prog W = .ok (.int .i64 (is.count (x : Int) : Int)) W) [2] [4] [0, 1, 3, 2, 4, 5] (by kernel_rfl) rfl (by kernel_rfl) (by kernel_rfl) (fun _ _ d _ _ h => by cases d <;> exact h) ?_
            repeat (first | (refine lexG_take _ ?_ rfl rfl rfl rfl (fun _ => ?_) ?_; rotate_left; (focus (go_simp; with_reducible rfl)); try simp only [Act.put, List.setIfInBounds_toArray, List.set_cons_zero, List.set_cons_succ]) | (refine lexG_held _ ?_ rfl rfl rfl rfl (by assumption) (fun _ hSw => ?_) ?_; rotate_left; (focus ((try dsimp only at hSw); go_simp; with_reducible rfl)); try simp only [Act.put, List.setIfInBounds_toArray, List.set_cons_zero, List.set_cons_succ]) | (refine lexG_skip _ rfl rfl (by assumption) ?_; try simp only [Act.put, List.setIfInBounds_toArray, List.set_cons_zero, List.set_cons_succ]))
            refine lexG_now _ rfl rfl rfl (fun K hK => ?_)
            go_wp2_with fail
            refine (ref_need (n : Int) _ hn1 hn7).mono ?_
            rintro e w9 ⟨rfl, rfl⟩
            dsimp only
            refine hK _ _ _ (fun _ h => h) hrun ?_
            clear hK K hrun hat hwc ownq rq hBq
            try simp only [Act.put, List.setIfInBounds_toArray, List.set_cons_zero, List.set_cons_succ]
            repeat (first | (refine lexG_take _ ?_ rfl rfl rfl rfl (fun _ => ?_) ?_; rotate_left; (focus (go_simp; with_reducible rfl)); try simp only [Act.put, List.setIfInBounds_toArray, List.set_cons_zero, List.set_cons_succ]) | (refine lexG_held _ ?_ rfl rfl rfl rfl (by assumption) (fun _ hSw => ?_) ?_; rotate_left; (focus ((try dsimp only at hSw); go_simp; with_reducible rfl)); try simp only [Act.put, List.setIfInBounds_toArray, List.set_cons_zero, List.set_cons_succ]) | (refine lexG_skip _ rfl rfl (by assumption) ?_; try simp only [Act.put, List.setIfInBounds_toArray, List.set_cons_zero, List.set_cons_succ]))
            refine lexG_nil ?_
            generalize wr.drew = w9 at *
            by_cases hq : (n : Int) / 2 + 1 ≤ (is.count (x : Int) : Int)
            · have hdq : decide ((n : Int) / 2 + 1 ≤ (is.count (x : Int) : Int)) = true := decide_eq_true hq
              exact absurd (inv6.top hn1 (by rw [il6]) (x : Int) hq) (by simp)
            · have hdq : decide ((n : Int) / 2 + 1 ≤ (is.count (x : Int) : Int)) = false := decide_eq_false hq
              go_wp2_with fail
              go_roundw
              case rel =>
                refine ⟨x + 1, by omega, by simp, ?_⟩
                intro y h1 h2
                by_cases e : y = (x : Int)
                · rw [e]; omega
                · have := hno y h1 (by omega)
                  omega
              case measure => simp [intOf]; omega
          · have hx3' : x = 3 := by omega
            subst hx3'
            go_wp2_with fail
            go_ret
            exact ⟨rfl, hBq⟩
      | some y =>
        obtain ⟨i0, rfl, hi0, hc0⟩ := inv6.yes y rfl
        refine (result_yes V6).mono ?_
        rintro e w7 ⟨rfl, hb7⟩
        dsimp only [resD, rec1]
        have own7 := omap_upd own6 (Upd.of_below_size (S := fun _ => False) hb7) (fun h => h)
        have hB7 := hB6.trans (hb7.mono hB6.size)
        clear V6 own6 hB6 hb7
        have own8 := own7.alloc (.cells #[.int .u32 1, .int .u32 1, .int .u16 0, .int .i64 0, .int .i64 1, .int .i64 i0, .float .f64 0, .string ⟨#[]⟩, .slice none 0 0] 32)
        have r8 := Blk.new w7 32 #[.int .u32 1, .int .u32 1, .int .u16 0, .int .i64 0, .int .i64 1, .int .i64 i0, .float .f64 0, .string ⟨#[]⟩, .slice none 0 0]
        have hB8 := hB7.alloc hB7.size (.cells #[.int .u32 1, .int .u32 1, .int .u16 0, .int .i64 0, .int .i64 1, .int .i64 i0, .float .f64 0, .string ⟨#[]⟩, .slice none 0 0] 32)
        clear own7 hB7
        go_wp2_with fail
        generalize w7.heap.size = rb at *
        generalize w7.alloc (.cells #[.int .u32 1, .int .u32 1, .int .u16 0, .int .i64 0, .int .i64 1, .int .i64 i0, .float .f64 0, .string ⟨#[]⟩, .slice none 0 0] 32) = w8 at *
        go_loopw [16] (fun xv wq => ∃ x : Nat, x ≤ 3 ∧ xv = .int .i64 (x : Int) ∧ (∀ y : Int, 0 ≤ y → y < x → ¬ (n : Int) / 2 + 1 ≤ (is.count y : Int)) ∧ wq.ownsMap Try.prog 2 (plainElem Try.prog 3) mb n Dm ∧ Blk wq rb 32 #[.int .u32 1, .int .u32 1, .int .u16 0, .int .i64 0, .int .i64 1, .int .i64 i0, .float .f64 0, .string ⟨#[]⟩, .slice none 0 0] ∧ Below w.heap.size w wq) (fun xv _ => 3 - (intOf xv).toNat)
        case atStart => exact ⟨0, by omega, rfl, fun y h1 h2 => by omega, own8, r8, hB8⟩
        case round =>
          rename_i hrel
          obtain ⟨x, hx, rfl, hno, ownq, rq, hBq⟩ := hrel
          by_cases hx3 : x < 3
          · have hd3 : decide ((x : Int) < 3) = true := decide_eq_true (by omega)
            have hwfx : (Lit.int .i64 (x : Int)).wf = true := by have h := wrap64_wf (x : Int); rwa [wrap64_small _ ⟨by omega, by omega⟩] at h
            go_wp2_with fail
            obtain ⟨cc, hrun, hat, hwc⟩ := ownq.drew.lookup_int law64 Try.underlying49 Try.underlying3 (zeroInt _) (keyOf_int_mk Try.underlying2 (a := (x : Int)) hwfx)
            have hcc : cc = (is.count (x : Int) : Int) := by
              have := hat.symm.trans (cnt6.2 (x : Int))
              injection this with this
              injection this
            subst hcc
            have hBd : Below w.heap.size w wr.drew := ⟨hBq.os, hBq.tape, hBq.output, hBq.size, hBq.block⟩
            have rqd : Blk wr.drew rb 32 #[.int .u32 1, .int .u32 1, .int .u16 0, .int .i64 0, .int .i64 1, .int .i64 i0, .float .f64 0, .string ⟨#[]⟩, .slice none 0 0] := rq
            have ownd := ownq.drew
            refine wp_region_lex (fun W => (Instr.lookup 49 (.map (some mb)) (.int .i64 (x : Int)) false).run Try.prog W = .ok (.int .i64 (is.count (x : Int) : Int)) W) [2] [4] [0, 1, 3, 2, 4, 5] (by kernel_rfl) rfl (by kernel_rfl) (by kernel_rfl) (fun _ _ d _ _ h => by cases d <;> exact h) ?_
            repeat (first | (refine lexG_take _ ?_ rfl rfl rfl rfl (fun _ => ?_) ?_; rotate_left; (focus (go_simp; with_reducible rfl)); try simp only [Act.put, List.setIfInBounds_toArray, List.set_cons_zero, List.set_cons_succ]) | (refine lexG_held _ ?_ rfl rfl rfl rfl (by assumption) (fun _ hSw => ?_) ?_; rotate_left; (focus ((try dsimp only at hSw); go_simp; with_reducible rfl)); try simp only [Act.put, List.setIfInBounds_toArray, List.set_cons_zero, List.set_cons_succ]) | (refine lexG_skip _ rfl rfl (by assumption) ?_; try simp only [Act.put, List.setIfInBounds_toArray, List.set_cons_zero, List.set_cons_succ]))
            refine lexG_now _ rfl rfl rfl (fun K hK => ?_)
            go_wp2_with fail
            refine (ref_need (n : Int) _ hn1 hn7).mono ?_
            rintro e w9 ⟨rfl, rfl⟩
            dsimp only
            refine hK _ _ _ (fun _ h => h) hrun ?_
            clear hK K hrun hat hwc ownq rq hBq
            try simp only [Act.put, List.setIfInBounds_toArray, List.set_cons_zero, List.set_cons_succ]
            repeat (first | (refine lexG_take _ ?_ rfl rfl rfl rfl (fun _ => ?_) ?_; rotate_left; (focus (go_simp; with_reducible rfl)); try simp only [Act.put, List.setIfInBounds_toArray, List.set_cons_zero, List.set_cons_succ]) | (refine lexG_held _ ?_ rfl rfl rfl rfl (by assumption) (fun _ hSw => ?_) ?_; rotate_left; (focus ((try dsimp only at hSw); go_simp; with_reducible rfl)); try simp only [Act.put, List.setIfInBounds_toArray, List.set_cons_zero, List.set_cons_succ]) | (refine lexG_skip _ rfl rfl (by assumption) ?_; try simp only [Act.put, List.setIfInBounds_toArray, List.set_cons_zero, List.set_cons_succ]))
            refine lexG_nil ?_
            generalize wr.drew = w9 at *
            by_cases hq : (n : Int) / 2 + 1 ≤ (is.count (x : Int) : Int)
            · have hdq : decide ((n : Int) / 2 + 1 ≤ (is.count (x : Int) : Int)) = true := decide_eq_true hq
              have hxi : i0 = (x : Int) := by have h := inv6.top hn1 (by rw [il6]) (x : Int) hq; injection h with h; injection h
              subst hxi
              obtain ⟨f0, f1, f2, f3, f4, f5, f6, f7, f8⟩ := rqd.rep9
              clear f0 f1 f2 f3 f4 f6 f7 f8
              go_wp2_with fail
              go_ret
              exact ⟨by simp, hBd⟩
            · have hdq : decide ((n : Int) / 2 + 1 ≤ (is.count (x : Int) : Int)) = false := decide_eq_false hq
              go_wp2_with fail
              go_roundw
              case rel =>
                refine ⟨x + 1, by omega, by simp, ?_⟩
                intro y h1 h2
                by_cases e : y = (x : Int)
                · rw [e]; omega
                · have := hno y h1 (by omega)
                  omega
              case measure => simp [intOf]; omega
          · have hx3' : x = 3 := by omega
            subst hx3'
            exact absurd (inv6.none_ rng6 (fun y h1 h2 => hno y h1 (by omega))) (by simp)
end Go.Proofs.Ytiajbcfelhlapaa
