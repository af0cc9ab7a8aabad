/- The walks of the reference's disk. -/
import Derived.Test.YtmebhnkmfdffoaaDisk
import Derived.Test.YtmebhnkmfdffoaaRegion
namespace Go.Proofs.Ytmebhnkmfdffoaa
open Go.RowKit

def RefAt (w : World) (p : Nat) (A : Option Addr) (c : Nat) (bs : List UInt8) (s : Nat) : Prop :=
  Blk w p 34 #[.slice A bs.length c, .int .i64 (s : Int)] ∧ Own w 5 1 A bs.length c (bys bs)

section
variable {w w' : World} {p : Nat} {A : Option Addr} {c : Nat} {bs : List UInt8} {s : Nat}
theorem RefAt.lt (h : RefAt w p A c bs s) : p < w.heap.size := h.1.lt
theorem RefAt.upd {S : Nat → Prop} (h : RefAt w p A c bs s) (hu : Upd S w w') (hp : ¬ S p) (hs : ∀ g, bOf A = some g → ¬ S g) : RefAt w' p A c bs s := ⟨h.1.upd hu hp, h.2.upd hu hs⟩
theorem RefAt.below {B : Nat} (h : RefAt w p A c bs s) (hb : Below B w w') (hB : w.heap.size ≤ B) : RefAt w' p A c bs s := ⟨h.1.below hb (Nat.lt_of_lt_of_le h.1.lt hB), h.2.below hb hB⟩
end

def RefTrunc (w : World) (p : Nat) (A : Option Addr) (c : Nat) (bs : List UInt8) (e : Ending) (w' : World) : Prop :=
  e = .returned (.tuple #[]) ∧ RefAt w' p A c bs bs.length ∧ Upd (fun k => k = p) w w'

set_option maxHeartbeats 400000 in
theorem ref_truncate {p : Nat} {A : Option Addr} {c : Nat} {bs : List UInt8} {s : Nat} {w : World} (n : Int) (h : RefAt w p A c bs s) (hl : bs.length ≤ 1000000) :
    Calls Try.prog 15 #[.pointer (some ⟨p, 0, none⟩), .int .i64 n] w (RefTrunc w p A c (bs.take (cutAt n bs.length))) := by
  have h0 := h.1.cell 0
  have h1 := h.1.cell 1
  have f0 := h.1.frozen 0
  have f1 := h.1.frozen 1
  have hlc := h.2.le_cap
  have hcm := h.2.cap_le
  unfold maxLen at hcm
  obtain ⟨m, hm, hm0, hif⟩ := cutAt_if n bs.length
  have hk := cutAt_le n bs.length
  have H := Lib.hid h; clear h
  generalize cutAt n bs.length = k at *
  have hkc : k ≤ c := by omega
  go_enter Try.func15, Try.ntmps15
  go_wp2_with fail
  go_still_tail 16, (by kernel_rfl)
  change wpList _ _ _ _ _ w.drew
  clear hm hif
  go_wp2
  go_end0
  have hkl : (bs.take k).length = k := by simp; omega
  have hne := H.out.2.ne_blk H.out.1 (by decide)
  refine ⟨rfl, ⟨?_, ?_⟩, ?_⟩
  · have := (H.out.1.set_ 0 (.slice A k c)).set_ 1 (.int .i64 k)
    rw [hkl]
    exact this
  · have := ((H.out.2.first hk).setCell (p := ⟨p, 0, none⟩) hne (.slice A k c)).setCell (p := ⟨p, 1, none⟩) hne (.int .i64 k)
    simp only [Nat.mul_one, bys_take] at this
    rw [hkl]
    exact this.drew
  · exact ((Upd.set_ w ⟨p, 0, none⟩ _).setCell (p := ⟨p, 1, none⟩) (fun _ => rfl) _).drew

theorem min_if (a b : Nat) : (if b < a then (b : Int) else (a : Int)) = ((min a b : Nat) : Int) := by
  split <;> omega

set_option maxHeartbeats 400000 in
theorem ref_crash {p : Nat} {A : Option Addr} {c : Nat} {bs : List UInt8} {s : Nat} {w : World} (n : Int) (h : RefAt w p A c bs s) (hl : bs.length ≤ 1000000) (hs : s ≤ bs.length) :
    Calls Try.prog 16 #[.pointer (some ⟨p, 0, none⟩), .int .i64 n] w (RefTrunc w p A c (bs.take (s + cutAt n (bs.length - s)))) := by
  have h0 := h.1.cell 0
  have h1 := h.1.cell 1
  obtain ⟨m, hm, hm0, hif⟩ := cutAt_if n bs.length
  have hk := cutAt_le n bs.length
  have e1 : min (s + cutAt n bs.length) bs.length = s + cutAt n (bs.length - s) := by unfold cutAt; omega
  have hif2 := min_if (s + cutAt n bs.length) bs.length
  have ht := ref_truncate (w := w.drew) ((min (s + cutAt n bs.length) bs.length : Nat) : Int) h hl
  rw [show cutAt ((min (s + cutAt n bs.length) bs.length : Nat) : Int) bs.length = min (s + cutAt n bs.length) bs.length from by unfold cutAt; omega] at ht
  have hw : IntKind.i64.wrap ((s : Int) + (cutAt n bs.length : Int)) = ((s + cutAt n bs.length : Nat) : Int) := by rw [IntWalk.i64_in _ (by omega)]; omega
  rw [← e1]
  have H := Lib.hid ht; clear ht h e1
  generalize cutAt n bs.length = k at *
  generalize s + k = sk at *
  generalize min sk bs.length = sm at *
  go_enter Try.func16, Try.ntmps16
  go_wp2_with fail
  go_still_tail 20, (by kernel_rfl)
  change wpList _ _ _ _ _ w.drew
  clear hm hif h0 h1 hif2
  go_wp2_with fail
  refine H.out.mono ?_
  rintro e w' ⟨rfl, hd, hu⟩
  go_wp2
  go_end0
  exact ⟨rfl, hd, upd_of_drew hu⟩

def RefAppend (w : World) (p : Nat) (A : Option Addr) (bs : List UInt8) (s : Nat) (e : Ending) (w' : World) : Prop :=
  e = .returned (.tuple #[]) ∧ ∃ A' c', RefAt w' p A' c' bs s ∧ Upd (fun k => k = p ∨ some k = bOf A) w w' ∧ (bOf A' = bOf A ∨ ∀ g, bOf A' = some g → w.heap.size ≤ g)

set_option maxHeartbeats 400000 in
theorem ref_append {p : Nat} {A A2 : Option Addr} {c c2 B : Nat} {bs b2 : List UInt8} {s : Nat} {w : World} (h : RefAt w p A c bs s) (hr : Reads w B 1 A2 b2.length (bys b2)) (hl : bs.length + b2.length ≤ 1000000) :
    Calls Try.prog 17 #[.pointer (some ⟨p, 0, none⟩), .slice A2 b2.length c2] w (RefAppend w p A (bs ++ b2) s) := by
  obtain ⟨i0, hi, hz0, hz1, hz2⟩ := info_parts info_u8
  have h0 := h.1.cell 0
  have hlc := h.2.le_cap
  have hcm := h.2.cap_le
  unfold maxLen at hcm
  have hkc : bs.length ≤ c := hlc
  have hh := Lib.hid h.2.drew; have hbk := Lib.hid h.1.drew; clear h
  have hs := Lib.hid (Src.ofReads Try.underlying22 c2 hr.drew (bys_one _)); clear hr
  have hne : some p ≠ bOf A := fun e => hh.out.ne_blk hbk.out (by decide) e.symm
  have hm1 : bs.length + b2.length ≤ maxLen := by unfold maxLen; omega
  have hm2 : (bs.length + b2.length) * 1 ≤ 140737488355328 := by omega
  go_enter Try.func17, Try.ntmps17
  go_wp2_with fail
  refine wp_region_lex (fun W => W.cell? ⟨p, 0, none⟩ = some (.slice A bs.length c)) [4, 8, 13] [17, 20] [0, 1, 2, 3, 4, 5, 6, 7, 8, 9, 10, 11, 12, 13, 14, 15, 16, 17, 18, 19, 20] (by kernel_rfl) rfl (by kernel_rfl) (by kernel_rfl) (fun _ _ d _ _ h => by cases d <;> exact h) ?_
  have hS : (w.drew).cell? ⟨p, 0, none⟩ = some (.slice A bs.length c) := h0
  repeat (first | (refine lexG_take _ ?_ rfl rfl rfl rfl (fun _ => ?_) ?_; rotate_left; (focus (go_simp; with_reducible rfl)); try simp only [Act.put, List.setIfInBounds_toArray, List.set_cons_zero, List.set_cons_succ]) | (refine lexG_held _ ?_ rfl rfl rfl rfl hS (fun _ hSw => ?_) ?_; rotate_left; (focus ((try dsimp only at hSw); go_simp; with_reducible rfl)); try simp only [Act.put, List.setIfInBounds_toArray, List.set_cons_zero, List.set_cons_succ]))
  clear hS
  refine lexG_now _ rfl rfl rfl (fun K hK => ?_)
  refine wp_append_mine (.tmp 19) (.tmp 20) 22 22 rfl 5 i0 (.int .u8 0) 1 1 Try.underlying22 hi hz0 hz1 hz2 rfl rfl (hh.out.clip (Nat.le_refl _) hkc) rfl hs.out hm1 hm2 ?_
  intro A' c' w' hown hg hat
  have hb := hbk.out.grown hg hne
  have k0 := hb.cell 0
  have e0 := hb.frozen 0
  refine hK _ _ _ (fun _ h => h) k0 ?_
  clear hK K
  try simp only [Act.put, List.setIfInBounds_toArray, List.set_cons_zero, List.set_cons_succ]
  repeat (refine lexG_take _ ?_ rfl rfl rfl rfl (fun _ => ?_) ?_; rotate_left; (focus (go_simp; with_reducible rfl)); try simp only [Act.put, List.setIfInBounds_toArray, List.set_cons_zero, List.set_cons_succ])
  refine lexG_nowF _ rfl rfl rfl (by kernel_rfl) (fun K hK => ?_)
  go_simp
  refine hK _ _ ?_
  refine lexG_nil ?_
  clear hK K
  go_wp2
  go_end0
  have hne' : bOf A' ≠ some p := hown.ne_blk hb (by decide)
  refine ⟨rfl, A', c', ⟨?_, ?_⟩, ?_, ?_⟩
  · have := hb.set_ 0 (.slice A' (bs.length + b2.length) c')
    rw [List.length_append]
    exact this
  · have := hown.setCell (p := ⟨p, 0, none⟩) hne' (.slice A' (bs.length + b2.length) c')
    rw [List.length_append, bys_append]
    exact this
  · exact upd_of_drew (((Upd.refl _ _).grown hg (fun k hk _ => .inr hk.symm)).setCell (fun _ => .inl rfl) _)
  · rcases hat with h | h
    · exact .inl h
    · refine .inr fun g hg => ?_
      rw [h] at hg
      injection hg with hg
      have : g = w.heap.size := hg.symm
      omega
end Go.Proofs.Ytmebhnkmfdffoaa
