/- Tick of both watches. -/
import Derived.Test.YteebefkojbdfjaaWatch
namespace Go.Proofs.Yteebefkojbdfjaa
open Go.RowKit

def watchTickDone (w : World) (p q me ticks : Nat) (ages : List Nat) (e : Ending) (w' : World) : Prop :=
  e = .returned (.bool (decide ((ticks + 1) % 3 = 0))) ∧ WatchAt w' 44 p q me (up me ages) ((ticks + 1) % 3) ∧ Upd (fun x => x = p ∨ x = q) w w'

set_option maxHeartbeats 800000 in
theorem watch_tick {w : World} {p q me ticks : Nat} {ages : List Nat} (h : WatchAt w 44 p q me ages ticks) (ht : ticks + 1 ≤ 1000000) :
    Calls Try.prog 8 #[.pointer (some ⟨p, 0, none⟩)] w (watchTickDone w p q me ticks ages) := by
  have h1 := h.o.cell 1
  have h7 := h.n7
  have hup0 := upTo_zero me ages
  have hua := Lib.hid (upTo_all me ages)
  have H := Lib.hid (h.o.ne_ h.a (by decide)); 
  go_enter Try.func8, Try.ntmps8
  go_wp2
  go_loopw [9] (fun i wr => ∃ k : Nat, k ≤ ages.length ∧ i = .int .i64 k ∧ WatchAt wr 44 p q me (upTo me ages k) ticks ∧ Upd (fun x => x = p ∨ x = q) w wr) (fun i _ => ages.length - (intOf i).toNat)
  case atStart => exact ⟨0, Nat.zero_le _, rfl, by rw [hup0]; exact h, Upd.refl _ _⟩
  case round =>
    obtain ⟨k, hk, rfl, hw, hu⟩ := hrel
    have hlen := upTo_len me ages k
    have g0 := hw.o.cell 0
    have g1 := hw.o.cell 1
    have g2 := hw.o.cell 2
    simp only [hlen] at g0 g1 g2
    by_cases hlt : k < ages.length
    · have ga := hw.age k (by rw [hlen]; exact hlt)
      rw [upTo_at me ages k hlt] at ga
      have fa := hw.a.frozen k
      have hab : ages.getD k 0 ≤ 1073741824 := by
        have hm : ages.getD k 0 ∈ ages := by simp [List.getD, hlt]
        exact h.hb _ hm
      by_cases hme : k = me
      · have kne : ((k : Int) != (me : Int)) = false := by simp [hme]
        have hstep : upTo me ages (k + 1) = upTo me ages k := by rw [hme]; exact upTo_me me ages
        have HS := Lib.hid hstep; have HW := Lib.hid hw; have HL := Lib.hid hlen; have HM := Lib.hid hme; have HH := Lib.hid h; clear hstep hw hlen hme hup0 h
        go_wp2
        go_roundw
        case rel => exact ⟨k + 1, by omega, by go_num, by rw [HS.out]; exact HW.out, hu⟩
        case measure => simp [intOf]; omega
      · have kne : ((k : Int) != (me : Int)) = true := by rw [bne_iff_ne]; omega
        have hstep := upTo_set me ages k hlt hme
        have hset := set_at (w := wr) (by decide) hw k (min (ages.getD k 0 + 1) 1073741824) (by omega)
        rw [hstep] at hset
        have hmin : (if (1073741824 : Int) < ((ages.getD k 0 : Nat) : Int) + 1 then (1073741824 : Int) else ((ages.getD k 0 : Nat) : Int) + 1) = ((min (ages.getD k 0 + 1) 1073741824 : Nat) : Int) := by split <;> omega
        have hsum : IntKind.i64.wrap (((ages.getD k 0 : Nat) : Int) + 1) = ((ages.getD k 0 : Nat) : Int) + 1 := IntWalk.i64_in _ (by omega)
        have hu2 := hu.setCell (p := ⟨q, k, none⟩) (fun _ => .inr rfl) (.int .i64 ((min (ages.getD k 0 + 1) 1073741824 : Nat) : Int))
        generalize ages.getD k 0 = a0 at *
        generalize min (a0 + 1) 1073741824 = m0 at *
        have HS := Lib.hid hset; have HL := Lib.hid hlen; have HH := Lib.hid h; clear hset hstep hw hlen hup0 h
        go_wp2_with fail
        refine wp_region_lex (fun W => W.cell? ⟨p, 1, none⟩ = some (.slice (some ⟨q, 0, none⟩) ages.length ages.length) ∧ W.cell? ⟨q, k, none⟩ = some (.int .i64 (a0 : Int))) [3, 8, 11] [15] [0, 1, 2, 3, 4, 5, 6, 7, 8, 9, 10, 11, 12, 13, 14, 15] (by kernel_rfl) rfl (by kernel_rfl) (by kernel_rfl) (fun _ _ d _ _ h => by cases d <;> exact h) ?_
        have hS : wr.drew.cell? ⟨p, 1, none⟩ = some (.slice (some ⟨q, 0, none⟩) ages.length ages.length) ∧ wr.drew.cell? ⟨q, k, none⟩ = some (.int .i64 (a0 : Int)) := ⟨g1, ga⟩
        repeat (first | (refine lexG_take _ ?_ rfl rfl rfl rfl (fun _ => ?_) ?_; rotate_left; (focus (go_simp; with_reducible rfl)); try simp only [Act.put, List.setIfInBounds_toArray, List.set_cons_zero, List.set_cons_succ]) | (refine lexG_held _ ?_ rfl rfl rfl rfl (by assumption) (fun _ hSw => ?_) ?_; rotate_left; (focus ((try dsimp only at hSw); go_simp; with_reducible rfl)); try simp only [Act.put, List.setIfInBounds_toArray, List.set_cons_zero, List.set_cons_succ]) | (refine lexG_skip _ rfl rfl (by assumption) ?_; try simp only [Act.put, List.setIfInBounds_toArray, List.set_cons_zero, List.set_cons_succ]))
        refine lexG_nowF _ rfl rfl rfl (by kernel_rfl) (fun K hK => ?_)
        go_simp
        refine hK _ _ ?_
        refine lexG_nil ?_
        clear hK K hS hmin hsum
        go_wp2
        go_roundw
        case rel => exact ⟨k + 1, by omega, by go_num, HS.out.upd (S := fun _ => False) (Upd.refl _ _).drew (fun h => h) (fun h => h), hu2.drew⟩
        case measure => simp [intOf]; omega
    · obtain rfl : k = ages.length := by omega
      rw [hua.out] at hw
      have f2 := hw.o.frozen 2
      have htb : ticks ≤ 999999 := by omega
      have hfin : WatchAt (wr.setCell ⟨p, 2, none⟩ (.int .i64 (((ticks + 1) % 3 : Nat) : Int))) 44 p q me (up me ages) ((ticks + 1) % 3) :=
        ⟨hw.o.set_ 2 _, hw.a.far (p := ⟨p, 2, none⟩) (Ne.symm (hw.o.ne_ hw.a (by decide))) _, hw.n1, hw.n7, hw.hs, hw.hb, by omega⟩
      have hu2 := hu.setCell (p := ⟨p, 2, none⟩) (fun _ => .inl rfl) (.int .i64 (((ticks + 1) % 3 : Nat) : Int))
      have HF := Lib.hid hfin; have HL := Lib.hid hlen; have HH := Lib.hid h; clear hfin hw hlen hup0 h
      go_wp2
      go_ret
      have e3 : ((ticks : Int) + 1) % 3 = (((ticks + 1) % 3 : Nat) : Int) := by omega
      refine ⟨congrArg (fun b => Ending.returned (.bool b)) (show ((((ticks : Int) + 1) % 3) == 0) = decide ((ticks + 1) % 3 = 0) from by rw [Bool.eq_iff_iff, beq_iff_eq, decide_eq_true_eq]; omega), by rw [e3]; exact HF.out, by rw [e3]; exact hu2⟩

def refTickDone (w : World) (p q me ticks : Nat) (ages : List Nat) (e : Ending) (w' : World) : Prop :=
  e = .returned (.bool (decide ((ticks + 1) % 3 = 0))) ∧ WatchAt w' 40 p q me (up me ages) (ticks + 1) ∧ Upd (fun x => x = p ∨ x = q) w w'

set_option maxHeartbeats 800000 in
theorem ref_tick {w : World} {p q me ticks : Nat} {ages : List Nat} (h : WatchAt w 40 p q me ages ticks) (ht : ticks + 1 ≤ 1000000) :
    Calls Try.prog 9 #[.pointer (some ⟨p, 0, none⟩)] w (refTickDone w p q me ticks ages) := by
  have h1 := h.o.cell 1
  have h7 := h.n7
  have hup0 := upTo_zero me ages
  have hua := Lib.hid (upTo_all me ages)
  have H := Lib.hid (h.o.ne_ h.a (by decide)); 
  go_enter Try.func9, Try.ntmps9
  go_wp2
  go_loopw [3] (fun i wr => ∃ k : Nat, k ≤ ages.length ∧ i = .int .i64 k ∧ WatchAt wr 40 p q me (upTo me ages k) ticks ∧ Upd (fun x => x = p ∨ x = q) w wr) (fun i _ => ages.length - (intOf i).toNat)
  case atStart => exact ⟨0, Nat.zero_le _, rfl, by rw [hup0]; exact h, Upd.refl _ _⟩
  case round =>
    obtain ⟨k, hk, rfl, hw, hu⟩ := hrel
    have hlen := upTo_len me ages k
    have g0 := hw.o.cell 0
    have g1 := hw.o.cell 1
    have g2 := hw.o.cell 2
    simp only [hlen] at g0 g1 g2
    by_cases hlt : k < ages.length
    · have ga := hw.age k (by rw [hlen]; exact hlt)
      rw [upTo_at me ages k hlt] at ga
      have fa := hw.a.frozen k
      have hab : ages.getD k 0 ≤ 1073741824 := by
        have hm : ages.getD k 0 ∈ ages := by simp [List.getD, hlt]
        exact h.hb _ hm
      by_cases hme : k = me
      · have kne : ((k : Int) != (me : Int)) = false := by simp [hme]
        have hstep : upTo me ages (k + 1) = upTo me ages k := by rw [hme]; exact upTo_me me ages
        have HS := Lib.hid hstep; have HW := Lib.hid hw; have HL := Lib.hid hlen; have HM := Lib.hid hme; have HH := Lib.hid h; clear hstep hw hlen hme hup0 h
        go_wp2
        go_roundw
        case rel => exact ⟨k + 1, by omega, by go_num, by rw [HS.out]; exact HW.out, hu⟩
        case measure => simp [intOf]; omega
      · have kne : ((k : Int) != (me : Int)) = true := by rw [bne_iff_ne]; omega
        have hstep := upTo_set me ages k hlt hme
        have hset := set_at (w := wr) (by decide) hw k (min (ages.getD k 0 + 1) 1073741824) (by omega)
        rw [hstep] at hset
        have hmin : (if (1073741824 : Int) < ((ages.getD k 0 : Nat) : Int) + 1 then (1073741824 : Int) else ((ages.getD k 0 : Nat) : Int) + 1) = ((min (ages.getD k 0 + 1) 1073741824 : Nat) : Int) := by split <;> omega
        have hsum : IntKind.i64.wrap (((ages.getD k 0 : Nat) : Int) + 1) = ((ages.getD k 0 : Nat) : Int) + 1 := IntWalk.i64_in _ (by omega)
        have hu2 := hu.setCell (p := ⟨q, k, none⟩) (fun _ => .inr rfl) (.int .i64 ((min (ages.getD k 0 + 1) 1073741824 : Nat) : Int))
        generalize ages.getD k 0 = a0 at *
        generalize min (a0 + 1) 1073741824 = m0 at *
        have HS := Lib.hid hset; have HL := Lib.hid hlen; have HH := Lib.hid h; clear hset hstep hw hlen hup0 h
        go_wp2_with fail
        refine wp_region_lex (fun W => W.cell? ⟨p, 1, none⟩ = some (.slice (some ⟨q, 0, none⟩) ages.length ages.length) ∧ W.cell? ⟨q, k, none⟩ = some (.int .i64 (a0 : Int))) [3, 8, 11] [15] [0, 1, 2, 3, 4, 5, 6, 7, 8, 9, 10, 11, 12, 13, 14, 15] (by kernel_rfl) rfl (by kernel_rfl) (by kernel_rfl) (fun _ _ d _ _ h => by cases d <;> exact h) ?_
        have hS : wr.drew.cell? ⟨p, 1, none⟩ = some (.slice (some ⟨q, 0, none⟩) ages.length ages.length) ∧ wr.drew.cell? ⟨q, k, none⟩ = some (.int .i64 (a0 : Int)) := ⟨g1, ga⟩
        repeat (first | (refine lexG_take _ ?_ rfl rfl rfl rfl (fun _ => ?_) ?_; rotate_left; (focus (go_simp; with_reducible rfl)); try simp only [Act.put, List.setIfInBounds_toArray, List.set_cons_zero, List.set_cons_succ]) | (refine lexG_held _ ?_ rfl rfl rfl rfl (by assumption) (fun _ hSw => ?_) ?_; rotate_left; (focus ((try dsimp only at hSw); go_simp; with_reducible rfl)); try simp only [Act.put, List.setIfInBounds_toArray, List.set_cons_zero, List.set_cons_succ]) | (refine lexG_skip _ rfl rfl (by assumption) ?_; try simp only [Act.put, List.setIfInBounds_toArray, List.set_cons_zero, List.set_cons_succ]))
        refine lexG_nowF _ rfl rfl rfl (by kernel_rfl) (fun K hK => ?_)
        go_simp
        refine hK _ _ ?_
        refine lexG_nil ?_
        clear hK K hS hmin hsum
        go_wp2
        go_roundw
        case rel => exact ⟨k + 1, by omega, by go_num, HS.out.upd (S := fun _ => False) (Upd.refl _ _).drew (fun h => h) (fun h => h), hu2.drew⟩
        case measure => simp [intOf]; omega
    · obtain rfl : k = ages.length := by omega
      rw [hua.out] at hw
      have f2 := hw.o.frozen 2
      have htb : ticks ≤ 999999 := by omega
      have hfin : WatchAt (wr.setCell ⟨p, 2, none⟩ (.int .i64 ((ticks + 1 : Nat) : Int))) 40 p q me (up me ages) (ticks + 1) :=
        ⟨hw.o.set_ 2 _, hw.a.far (p := ⟨p, 2, none⟩) (Ne.symm (hw.o.ne_ hw.a (by decide))) _, hw.n1, hw.n7, hw.hs, hw.hb, by omega⟩
      have hu2 := hu.setCell (p := ⟨p, 2, none⟩) (fun _ => .inl rfl) (.int .i64 ((ticks + 1 : Nat) : Int))
      have HF := Lib.hid hfin; have HL := Lib.hid hlen; have HH := Lib.hid h; clear hfin hw hlen hup0 h
      go_wp2
      go_ret
      have e3 : ((ticks : Int) + 1) = ((ticks + 1 : Nat) : Int) := by omega
      refine ⟨congrArg (fun b => Ending.returned (.bool b)) (show ((((ticks : Int) + 1) % 3) == 0) = decide ((ticks + 1) % 3 = 0) from by rw [Bool.eq_iff_iff, beq_iff_eq, decide_eq_true_eq]; omega), by rw [e3]; exact HF.out, by rw [e3]; exact hu2⟩
end Go.Proofs.Yteebefkojbdfjaa
