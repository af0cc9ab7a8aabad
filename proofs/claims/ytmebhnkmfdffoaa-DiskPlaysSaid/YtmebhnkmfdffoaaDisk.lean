/- The walks of package disk: what each method does, said of the bytes. -/
import Derived.Test.YtmebhnkmfdffoaaRows
import Derived.Test.YtmebhnkmfdffoaaKit
import Derived.StillTailTactics
import Derived.Deep.RegionHeld3
import Derived.Deep.QuietTactic
import Derived.BigQuiet
import Derived.Deep.DeepMust
namespace Go.Proofs.Ytmebhnkmfdffoaa
open Go.RowKit

theorem info_u8 : (Try.prog.info? 5).map (fun i => (i.zero, i.size, i.bytes)) = some (some (.int .u8 0), 1, 1) := by kernel_rfl

def DiskAt (w : World) (p : Nat) (A : Option Addr) (c : Nat) (bs : List UInt8) (s : Nat) : Prop :=
  Blk w p 40 #[.slice A bs.length c, .int .i64 (s : Int)] ∧ Own w 5 1 A bs.length c (bys bs)

def NewDisk (w : World) (bs : List UInt8) (s : Nat) (e : Ending) (w' : World) : Prop :=
  ∃ p A' c', e = .returned (.pointer (some ⟨p, 0, none⟩)) ∧ DiskAt w' p A' c' bs s ∧ Below w.heap.size w w' ∧ w.heap.size ≤ p ∧ ∀ g, bOf A' = some g → w.heap.size ≤ g

theorem disk_new (w : World) : Calls Try.prog 7 #[] w (NewDisk w [] 0) := by
  go_enter Try.func7, Try.ntmps7
  go_wp2
  go_ret
  exact ⟨_, none, 0, rfl, ⟨Blk.new _ _ _, Own.none_⟩, (Below.refl _ _).alloc (Nat.le_refl _) _, Nat.le_refl _, by simp [bOf]⟩

theorem disk_sure {p : Nat} {A : Option Addr} {c : Nat} {bs : List UInt8} {s : Nat} {w : World} (h : DiskAt w p A c bs s) :
    Calls Try.prog 10 #[.pointer (some ⟨p, 0, none⟩)] w fun e w' => e = .returned (.int .i64 (s : Int)) ∧ w = w' := by
  have h1 := h.1.cell 1
  clear h
  go_enter Try.func10, Try.ntmps10
  go_wp2
  go_ret
  exact ⟨rfl, rfl⟩

theorem disk_sync {p : Nat} {A : Option Addr} {c : Nat} {bs : List UInt8} {s : Nat} {w : World} (h : DiskAt w p A c bs s) :
    Calls Try.prog 9 #[.pointer (some ⟨p, 0, none⟩)] w fun e w' => e = .returned (.tuple #[]) ∧ DiskAt w' p A c bs bs.length ∧ Upd (fun k => k = p) w w' := by
  have h0 := h.1.cell 0
  have h1 := h.1.cell 1
  have f1 := h.1.frozen 1
  have H := Lib.hid h; clear h
  go_enter Try.func9, Try.ntmps9
  go_wp2
  go_end0
  refine ⟨rfl, ⟨H.out.1.set_ 1 _, H.out.2.setCell (H.out.2.ne_blk H.out.1 (by decide)) _⟩, Upd.set_ w ⟨p, 1, none⟩ _⟩

section
variable {w w' : World} {p : Nat} {A : Option Addr} {c : Nat} {bs : List UInt8} {s : Nat}
theorem DiskAt.lt (h : DiskAt w p A c bs s) : p < w.heap.size := h.1.lt
theorem DiskAt.upd {S : Nat → Prop} (h : DiskAt w p A c bs s) (hu : Upd S w w') (hp : ¬ S p) (hs : ∀ g, bOf A = some g → ¬ S g) : DiskAt w' p A c bs s := ⟨h.1.upd hu hp, h.2.upd hu hs⟩
theorem DiskAt.below {B : Nat} (h : DiskAt w p A c bs s) (hb : Below B w w') (hB : w.heap.size ≤ B) : DiskAt w' p A c bs s := ⟨h.1.below hb (Nat.lt_of_lt_of_le h.1.lt hB), h.2.below hb hB⟩
theorem DiskAt.alloc (h : DiskAt w p A c bs s) (o : Obj) : DiskAt (w.alloc o) p A c bs s := ⟨h.1.alloc o, h.2.alloc o⟩
end

def AppendDone (w : World) (p : Nat) (A : Option Addr) (bs : List UInt8) (s : Nat) (e : Ending) (w' : World) : Prop :=
  e = .returned (.tuple #[]) ∧ ∃ A' c', DiskAt w' p A' c' bs s ∧ Upd (fun k => k = p ∨ some k = bOf A) w w' ∧ (bOf A' = bOf A ∨ ∀ g, bOf A' = some g → w.heap.size ≤ g)

theorem disk_append {p : Nat} {A A2 : Option Addr} {c c2 B : Nat} {bs b2 : List UInt8} {s : Nat} {w : World} (h : DiskAt w p A c bs s) (hr : Reads w B 1 A2 b2.length (bys b2)) (hl : bs.length + b2.length ≤ 1000000) :
    Calls Try.prog 8 #[.pointer (some ⟨p, 0, none⟩), .slice A2 b2.length c2] w (AppendDone w p A (bs ++ b2) s) := by
  obtain ⟨i0, hi, hz0, hz1, hz2⟩ := info_parts info_u8
  have h0 := h.1.cell 0
  have h1 := h.1.cell 1
  have H := Lib.hid h; clear h
  go_enter Try.func8, Try.ntmps8
  go_wp2_with (at_builtin; go_must (refine wpList_append_mine rfl _ _ 22 22 rfl 5 i0 (.int .u8 0) 1 1 Try.underlying22 hi hz0 hz1 hz2 rfl rfl H.out.2 rfl (Src.ofReads Try.underlying22 _ hr (bys_one _)) ?b1 ?b2 ?grow))
  case b1 => unfold maxLen; omega
  case b2 => omega
  case grow =>
    intro A' c' w' hown hg hat
    have hb := H.out.1.grown hg (fun e => H.out.2.ne_blk H.out.1 (by decide) e.symm)
    have k0 := hb.cell 0
    have e0 := hb.frozen 0
    go_wp2
    go_end0
    have hne : bOf A' ≠ some p := hown.ne_blk hb (by decide)
    refine ⟨rfl, A', c', ⟨?_, ?_⟩, ?_, ?_⟩
    · have := hb.set_ 0 (.slice A' (bs.length + b2.length) c')
      rw [List.length_append]
      exact this
    · have := hown.setCell (p := ⟨p, 0, none⟩) hne (.slice A' (bs.length + b2.length) c')
      rw [List.length_append, bys_append]
      exact this
    · refine ((Upd.refl _ _).grown hg (fun k hk _ => .inr hk.symm)).setCell (fun _ => .inl rfl) _
    · rcases hat with h | h
      · exact .inl h
      · refine .inr fun g hg => ?_
        rw [h] at hg
        injection hg with hg
        omega

/-! ### slices.Clone, slices.Clip at bytes -/

def NewBytes (w : World) (bs : List UInt8) (e : Ending) (w' : World) : Prop :=
  ∃ A' c', e = .returned (.slice A' bs.length c') ∧ Own w' 5 1 A' bs.length c' (bys bs) ∧ Below w.heap.size w w' ∧ ∀ g, bOf A' = some g → w.heap.size ≤ g

theorem clone_bytes {A : Option Addr} {c B : Nat} {bs : List UInt8} {w : World} (hr : Reads w B 1 A bs.length (bys bs)) (hB : B ≤ w.heap.size) (hl : bs.length ≤ 1000000) :
    Calls Try.prog 18 #[.slice A bs.length c] w (NewBytes w bs) := by
  obtain ⟨i0, hi, hz0, hz1, hz2⟩ := info_parts info_u8
  have he := fun w A n => Lib.run_eql_slice_nil (P := Try.prog) w 22 5 A n c 0 0 Try.underlying22
  cases A with
  | none =>
    have hb : bs = [] := by
      rcases Nat.eq_zero_or_pos bs.length with h | h
      · exact List.eq_nil_of_length_eq_zero h
      · obtain ⟨_, h, _⟩ := hr.2 h; cases h
    subst hb
    clear hr
    go_enter Try.func18, Try.ntmps18
    go_wp2
    go_ret
    exact ⟨none, 0, rfl, Own.none_, Below.refl _ _, by simp [bOf]⟩
  | some a =>
    go_enter Try.func18, Try.ntmps18
    go_wp2_with (at_builtin; go_must (refine wpList_append_mine rfl _ _ 22 22 rfl 5 i0 (.int .u8 0) 1 1 Try.underlying22 hi hz0 hz1 hz2 rfl rfl (Own.new w 5 1 0 #[] rfl (by decide)) rfl (Src.ofReads Try.underlying22 _ (hr.alloc hB _) (bys_one _)) ?b1 ?b2 ?grow))
    case b1 => unfold maxLen; omega
    case b2 => omega
    case grow =>
      intro A' c' w' hown hg hat
      go_wp2
      go_ret
      simp only [Nat.zero_add, List.nil_append] at hown ⊢
      refine ⟨A', c', rfl, hown, ((Below.refl _ _).alloc (Nat.le_refl _) _).grown hg (by simp) (fun k hk => by simp [bOf] at hk; omega), ?_⟩
      intro g hg
      rcases hat with h | h <;> rw [h] at hg <;> simp [bOf] at hg <;> omega

theorem clip_bytes {A : Option Addr} {n c : Nat} {w : World} (hn : n ≤ c) (hc : c ≤ maxLen) :
    Calls Try.prog 19 #[.slice A n c] w fun e w' => e = .returned (.slice A n n) ∧ w = w' := by
  unfold maxLen at hc
  go_enter Try.func19, Try.ntmps19
  go_wp2
  go_ret
  exact ⟨rfl, rfl⟩

theorem disk_bytes {p : Nat} {A : Option Addr} {c : Nat} {bs : List UInt8} {s : Nat} {w : World} (h : DiskAt w p A c bs s) (hl : bs.length ≤ 1000000) :
    Calls Try.prog 12 #[.pointer (some ⟨p, 0, none⟩)] w (NewBytes w bs) := by
  have h0 := h.1.cell 0
  have H := Lib.hid h; clear h
  go_enter Try.func12, Try.ntmps12
  go_wp2_with fail
  refine (clone_bytes H.out.2.reads_ (Nat.le_refl _) hl).mono ?_
  rintro e w' ⟨A', c', rfl, hown, hb, hg⟩
  go_wp2
  go_ret
  exact ⟨A', c', rfl, hown, hb, hg⟩

theorem disk_clone {p : Nat} {A : Option Addr} {c : Nat} {bs : List UInt8} {s : Nat} {w : World} (h : DiskAt w p A c bs s) (hl : bs.length ≤ 1000000) :
    Calls Try.prog 13 #[.pointer (some ⟨p, 0, none⟩)] w (NewDisk w bs s) := by
  have h0 := h.1.cell 0
  have h1 := h.1.cell 1
  have hp := h.1.lt
  have H := Lib.hid h; clear h
  go_enter Try.func13, Try.ntmps13
  go_wp2_with fail
  go_region_held3 (fun w' => w'.cell? ⟨p, 0, none⟩ = some (.slice A bs.length c) ∧ w'.cell? ⟨p, 1, none⟩ = some (.int .i64 (s : Int))) (go_keep)
    (first | (go_at_call 18; refine (clone_bytes H.out.2.drew.reads_ (Nat.le_refl _) hl).mono ?_; rintro e w' ⟨A', c', rfl, hown, hb, hg⟩; have k0 := (hb.cell (p := ⟨p, 0, none⟩) hp).trans h0; have k1 := (hb.cell (p := ⟨p, 1, none⟩) hp).trans h1))
  go_wp2
  go_ret
  have hbw := below_of_drew hb
  refine ⟨_, A', c', rfl, ⟨Blk.new _ _ _, hown.alloc _⟩, hbw.alloc hb.size _, hb.size, hg⟩

def TruncDone (w : World) (p : Nat) (A : Option Addr) (bs : List UInt8) (e : Ending) (w' : World) : Prop :=
  e = .returned (.tuple #[]) ∧ ∃ c', DiskAt w' p A c' bs bs.length ∧ Upd (fun k => k = p) w w'

/-- the place of a cut: 'min(max(n, 0), len)' -/
def cutAt (n : Int) (l : Nat) : Nat := min n.toNat l

theorem cutAt_if (n : Int) (l : Nat) : ∃ m : Int, (if n < 0 then 0 else n) = m ∧ 0 ≤ m ∧ (if (l : Int) < m then (l : Int) else m) = (cutAt n l : Int) := by
  unfold cutAt
  exact ⟨_, rfl, by split <;> omega, by split <;> split <;> omega⟩
theorem cutAt_le (n : Int) (l : Nat) : cutAt n l ≤ l := Nat.min_le_right _ _

set_option maxHeartbeats 400000 in
theorem disk_truncate {p : Nat} {A : Option Addr} {c : Nat} {bs : List UInt8} {s : Nat} {w : World} (n : Int) (h : DiskAt w p A c bs s) (hl : bs.length ≤ 1000000) :
    Calls Try.prog 14 #[.pointer (some ⟨p, 0, none⟩), .int .i64 n] w (TruncDone w p A (bs.take (cutAt n bs.length))) := by
  have h0 := h.1.cell 0
  have h1 := h.1.cell 1
  have f0 := h.1.frozen 0
  have f1 := h.1.frozen 1
  have hlc := h.2.le_cap
  have hcm := h.2.cap_le
  unfold maxLen at hcm
  obtain ⟨m, hm, hm0, hif⟩ := cutAt_if n bs.length
  have hk := cutAt_le n bs.length
  have H := Lib.hid h; clear h
  generalize cutAt n bs.length = k at *
  have hkc : k ≤ c := by omega
  go_enter Try.func14, Try.ntmps14
  go_wp2_with fail
  go_still_tail 17, (by kernel_rfl)
  still_call ((clip_bytes (by omega) (by unfold maxLen; omega)).mono fun e w' h => ⟨h.1, h.2.symm⟩)
  repeat still_step
  refine wpStill_nil ?_
  change wpList _ _ _ _ _ w.drew
  clear hm hif
  go_wp2
  go_end0
  have hkl : (bs.take k).length = k := by simp; omega
  have hne := H.out.2.ne_blk H.out.1 (by decide)
  refine ⟨rfl, k, ⟨?_, ?_⟩, ?_⟩
  · have := (H.out.1.set_ 0 (.slice A k k)).set_ 1 (.int .i64 k)
    rw [hkl]
    exact this
  · have := (((H.out.2.first hk).clip (Nat.le_refl _) hkc).setCell (p := ⟨p, 0, none⟩) hne (.slice A k k)).setCell (p := ⟨p, 1, none⟩) hne (.int .i64 k)
    simp only [Nat.mul_one, bys_take] at this
    rw [hkl]
    exact this.drew
  · exact ((Upd.set_ w ⟨p, 0, none⟩ _).setCell (p := ⟨p, 1, none⟩) (fun _ => rfl) _).drew

set_option maxHeartbeats 400000 in
theorem disk_crash {p : Nat} {A : Option Addr} {c : Nat} {bs : List UInt8} {s : Nat} {w : World} (n : Int) (h : DiskAt w p A c bs s) (hl : bs.length ≤ 1000000) (hs : s ≤ bs.length) :
    Calls Try.prog 11 #[.pointer (some ⟨p, 0, none⟩), .int .i64 n] w (TruncDone w p A (bs.take (s + cutAt n (bs.length - s)))) := by
  have h0 := h.1.cell 0
  have h1 := h.1.cell 1
  obtain ⟨m, hm, hm0, hif⟩ := cutAt_if n (bs.length - s)
  have hk := cutAt_le n (bs.length - s)
  have hd : IntKind.i64.wrap ((bs.length : Int) - (s : Int)) = ((bs.length - s : Nat) : Int) := by rw [IntWalk.i64_in _ (by omega)]; omega
  have hw : IntKind.i64.wrap ((s : Int) + (cutAt n (bs.length - s) : Int)) = ((s + cutAt n (bs.length - s) : Nat) : Int) := by rw [IntWalk.i64_in _ (by omega)]; omega
  have ht := disk_truncate (w := w.drew) ((s + cutAt n (bs.length - s) : Nat) : Int) h hl
  rw [show cutAt ((s + cutAt n (bs.length - s) : Nat) : Int) bs.length = s + cutAt n (bs.length - s) from by unfold cutAt at *; omega] at ht
  have H := Lib.hid ht; clear ht h
  generalize cutAt n (bs.length - s) = k at *
  generalize s + k = sk at *
  generalize bs.length - s = d at *
  go_enter Try.func11, Try.ntmps11
  go_wp2_with fail
  go_still_tail 19, (by kernel_rfl)
  change wpList _ _ _ _ _ w.drew
  clear hm hif h0 h1
  go_wp2_with fail
  refine H.out.mono ?_
  rintro e w' ⟨rfl, c', hd, hu⟩
  go_wp2
  go_end0
  exact ⟨rfl, c', hd, upd_of_drew hu⟩

/-! ### A disk of the law's own: from a base world on -/

structure DiskIn (w0 w : World) (p : Nat) (A : Option Addr) (c : Nat) (bs : List UInt8) (s : Nat) : Prop where
  at_ : DiskAt w p A c bs s
  hp : w0.heap.size ≤ p
  hA : ∀ g, bOf A = some g → w0.heap.size ≤ g
  bel : Below w0.heap.size w0 w

section
variable {w0 w w' : World} {p : Nat} {A : Option Addr} {c : Nat} {bs : List UInt8} {s : Nat}
theorem DiskIn.below {B : Nat} (h : DiskIn w0 w p A c bs s) (hb : Below B w w') (hB : w.heap.size ≤ B) : DiskIn w0 w' p A c bs s :=
  ⟨h.at_.below hb hB, h.hp, h.hA, h.bel.trans (hb.mono (Nat.le_trans h.bel.size hB))⟩
theorem DiskIn.drew (h : DiskIn w0 w p A c bs s) : DiskIn w0 w.drew p A c bs s := ⟨h.at_, h.hp, h.hA, h.bel.drew⟩
theorem DiskIn.drewN (h : DiskIn w0 w p A c bs s) (n : Nat) : DiskIn w0 (w.drewN n) p A c bs s := ⟨h.at_, h.hp, h.hA, below_drewN h.bel n⟩
theorem DiskIn.alloc (h : DiskIn w0 w p A c bs s) (o : Obj) : DiskIn w0 (w.alloc o) p A c bs s := ⟨h.at_.alloc o, h.hp, h.hA, h.bel.alloc h.bel.size o⟩
theorem DiskIn.far {S : Nat → Prop} (h : DiskIn w0 w p A c bs s) (hu : Upd S w w') (hp : ¬ S p) (hs : ∀ g, bOf A = some g → ¬ S g) (hS : ∀ k, S k → w0.heap.size ≤ k) : DiskIn w0 w' p A c bs s :=
  ⟨h.at_.upd hu hp hs, h.hp, h.hA, h.bel.trans (hu.below h.bel.size fun k hk hx => by have := hS k hx; omega)⟩

def IsNewIn (w0 : World) (bs : List UInt8) (s : Nat) (e : Ending) (w' : World) : Prop := ∃ p A c, e = .returned (.pointer (some ⟨p, 0, none⟩)) ∧ DiskIn w0 w' p A c bs s
def NowIn (w0 : World) (p : Nat) (bs : List UInt8) (s : Nat) (e : Ending) (w' : World) : Prop := ∃ A c, e = .returned (.tuple #[]) ∧ DiskIn w0 w' p A c bs s

theorem din_new (hb : Below w0.heap.size w0 w) : Calls Try.prog 7 #[] w (IsNewIn w0 [] 0) :=
  (disk_new w).mono fun _ _ ⟨p, A', c', he, hd, hb2, hp, hA⟩ => ⟨p, A', c', he, hd, Nat.le_trans hb.size hp, fun g hg => Nat.le_trans hb.size (hA g hg), hb.trans (hb2.mono hb.size)⟩

theorem din_sync (h : DiskIn w0 w p A c bs s) : Calls Try.prog 9 #[.pointer (some ⟨p, 0, none⟩)] w (NowIn w0 p bs bs.length) :=
  (disk_sync h.at_).mono fun _ _ ⟨he, hd, hu⟩ => ⟨A, c, he, hd, h.hp, h.hA, h.bel.trans (hu.below h.bel.size fun k hk e => by have := h.hp; omega)⟩

theorem din_append {A2 : Option Addr} {b2 : List UInt8} {n2 c2 B : Nat} (h : DiskIn w0 w p A c bs s) (hr : Reads w B 1 A2 n2 (bys b2)) (hl : bs.length + b2.length ≤ 1000000) :
    Calls Try.prog 8 #[.pointer (some ⟨p, 0, none⟩), .slice A2 n2 c2] w (NowIn w0 p (bs ++ b2) s) := by
  obtain rfl : b2.length = n2 := by have := hr.len; rw [bys_len] at this; omega
  refine (disk_append h.at_ hr hl).mono fun _ w' ⟨he, A', c', hd, hu, hA⟩ => ⟨A', c', he, hd, h.hp, fun g hg => ?_, h.bel.trans (hu.below h.bel.size ?_)⟩
  · rcases hA with e | e
    · exact h.hA g (by rw [← e]; exact hg)
    · exact Nat.le_trans h.bel.size (e g hg)
  · rintro k hk (rfl | e)
    · have := h.hp; omega
    · have := h.hA k e.symm; omega

theorem din_truncate (n : Int) (h : DiskIn w0 w p A c bs s) (hl : bs.length ≤ 1000000) :
    Calls Try.prog 14 #[.pointer (some ⟨p, 0, none⟩), .int .i64 n] w (NowIn w0 p (bs.take (cutAt n bs.length)) (cutAt n bs.length)) := by
  refine (disk_truncate n h.at_ hl).mono fun _ _ ⟨he, c', hd, hu⟩ => ⟨A, c', he, ?_, h.hp, h.hA, h.bel.trans (hu.below h.bel.size fun k hk e => by have := h.hp; omega)⟩
  have := cutAt_le n bs.length
  rwa [show (bs.take (cutAt n bs.length)).length = cutAt n bs.length from by simp; omega] at hd

theorem din_crash (n : Int) (h : DiskIn w0 w p A c bs s) (hl : bs.length ≤ 1000000) (hs : s ≤ bs.length) :
    Calls Try.prog 11 #[.pointer (some ⟨p, 0, none⟩), .int .i64 n] w (NowIn w0 p (bs.take (s + cutAt n (bs.length - s))) (s + cutAt n (bs.length - s))) := by
  refine (disk_crash n h.at_ hl hs).mono fun _ _ ⟨he, c', hd, hu⟩ => ⟨A, c', he, ?_, h.hp, h.hA, h.bel.trans (hu.below h.bel.size fun k hk e => by have := h.hp; omega)⟩
  have := cutAt_le n (bs.length - s)
  rwa [show (bs.take (s + cutAt n (bs.length - s))).length = s + cutAt n (bs.length - s) from by simp; omega] at hd
end
end Go.Proofs.Ytmebhnkmfdffoaa
