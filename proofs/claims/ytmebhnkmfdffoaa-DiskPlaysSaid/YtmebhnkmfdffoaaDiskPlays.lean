/- DiskPlays: three objects side by side. -/
import Derived.Test.YtmebhnkmfdffoaaDiskKnown
import Derived.Test.YtmebhnkmfdffoaaDiskRef
namespace Go.Proofs.Ytmebhnkmfdffoaa
open Go.RowKit

def Apart2 (A B : Option Addr) : Prop := ∀ g, bOf A = some g → bOf B ≠ some g

structure Trio (W w : World) (p q r X : Nat) (bs : List UInt8) (s : Nat) (bs' : List UInt8) (s' : Nat) (bc : List UInt8) (sc : Nat) (cx : Array Value) (A A' Ac : Option Addr) (c c' cc : Nat) : Prop where
  d : DiskAt w p A c bs s
  f : RefAt w q A' c' bs' s'
  k : DiskAt w r Ac cc bc sc
  x : Blk w X 36 cx
  hp : W.heap.size ≤ p
  hq : W.heap.size ≤ q
  hr : W.heap.size ≤ r
  hpr : p ≠ r
  hA : ∀ g, bOf A = some g → W.heap.size ≤ g
  hA' : ∀ g, bOf A' = some g → W.heap.size ≤ g
  hAc : ∀ g, bOf Ac = some g → W.heap.size ≤ g
  a1 : Apart2 A A'
  a2 : Apart2 A Ac
  a3 : Apart2 A' Ac
  bel : Below W.heap.size W w

def TrioNow (W : World) (p q r X : Nat) (bs : List UInt8) (s : Nat) (bs' : List UInt8) (s' : Nat) (bc : List UInt8) (sc : Nat) (cx : Array Value) (e : Ending) (w : World) : Prop :=
  e = .returned (.tuple #[]) ∧ ∃ A A' Ac c c' cc, Trio W w p q r X bs s bs' s' bc sc cx A A' Ac c c' cc

section
variable {W w w' : World} {p q r X : Nat} {bs bs' bc : List UInt8} {s s' sc : Nat} {cx : Array Value} {A A' Ac : Option Addr} {c c' cc : Nat}

theorem Apart2.fresh {B A : Option Addr} (hb : ∀ g, bOf B = some g → g < w.heap.size) (ha : ∀ g, bOf A = some g → w.heap.size ≤ g) : Apart2 A B :=
  fun g h1 h2 => by have := hb g h2; have := ha g h1; omega
theorem Apart2.symm {A B : Option Addr} (h : Apart2 A B) : Apart2 B A := fun g h1 h2 => h g h2 h1

theorem Trio.disk (h : Trio W w p q r X bs s bs' s' bc sc cx A A' Ac c c' cc) {bs1 : List UInt8} {s1 : Nat} {A1 : Option Addr} {c1 : Nat} (hd : DiskAt w' p A1 c1 bs1 s1) (hu : Upd (fun k => k = p ∨ some k = bOf A) w w')
    (hA1 : bOf A1 = bOf A ∨ ∀ g, bOf A1 = some g → w.heap.size ≤ g) : Trio W w' p q r X bs1 s1 bs' s' bc sc cx A1 A' Ac c1 c' cc := by
  have hne {g : Nat} {t : TypeId} {cs : Array Value} (hb : Blk w g t cs) (h1 : t ≠ 40 ∨ g ≠ p) (h2 : t ≠ 5) : ¬ (g = p ∨ some g = bOf A) := by
    rintro (e | e)
    · rcases h1 with h1 | h1
      · exact hb.ne_ h.d.1 h1 e
      · exact h1 e
    · exact h.d.2.ne_blk hb (fun e => h2 e.symm) e.symm
  have hown {B : Option Addr} {n cB : Nat} {xs : List Value} (ho : Own w 5 1 B n cB xs) (ha : Apart2 A B) : ∀ g, bOf B = some g → ¬ (g = p ∨ some g = bOf A) := by
    intro g hg
    rintro (e | e)
    · subst e; exact ho.ne_blk h.d.1 (by decide) hg
    · exact ha g e.symm hg
  have hap {B : Option Addr} {n cB : Nat} {xs : List Value} (ho : Own w 5 1 B n cB xs) (ha : Apart2 A B) : Apart2 A1 B := by
    rcases hA1 with e | e
    · intro g h1 h2; exact ha g (by rw [← e]; exact h1) h2
    · exact Apart2.fresh (w := w) (fun g hg => ho.lt hg) e
  refine ⟨hd, h.f.upd hu (hne h.f.1 (.inl (by decide)) (by decide)) (hown h.f.2 h.a1), h.k.upd hu (hne h.k.1 (.inr (Ne.symm h.hpr)) (by decide)) (hown h.k.2 h.a2), h.x.upd hu (hne h.x (.inl (by decide)) (by decide)),
    h.hp, h.hq, h.hr, h.hpr, ?_, h.hA', h.hAc, hap h.f.2 h.a1, hap h.k.2 h.a2, h.a3, ?_⟩
  · intro g hg
    rcases hA1 with e | e
    · exact h.hA g (by rw [← e]; exact hg)
    · exact Nat.le_trans h.bel.size (e g hg)
  · refine h.bel.trans (hu.below h.bel.size ?_)
    rintro k hk (rfl | e)
    · have := h.hp; omega
    · have := h.hA k e.symm; omega

theorem Trio.ref (h : Trio W w p q r X bs s bs' s' bc sc cx A A' Ac c c' cc) {bs1 : List UInt8} {s1 : Nat} {A1 : Option Addr} {c1 : Nat} (hd : RefAt w' q A1 c1 bs1 s1) (hu : Upd (fun k => k = q ∨ some k = bOf A') w w')
    (hA1 : bOf A1 = bOf A' ∨ ∀ g, bOf A1 = some g → w.heap.size ≤ g) : Trio W w' p q r X bs s bs1 s1 bc sc cx A A1 Ac c c1 cc := by
  have hne {g : Nat} {t : TypeId} {cs : Array Value} (hb : Blk w g t cs) (h1 : t ≠ 34) (h2 : t ≠ 5) : ¬ (g = q ∨ some g = bOf A') := by
    rintro (e | e)
    · exact hb.ne_ h.f.1 h1 e
    · exact h.f.2.ne_blk hb (fun e => h2 e.symm) e.symm
  have hown {B : Option Addr} {n cB : Nat} {xs : List Value} (ho : Own w 5 1 B n cB xs) (ha : Apart2 A' B) : ∀ g, bOf B = some g → ¬ (g = q ∨ some g = bOf A') := by
    intro g hg
    rintro (e | e)
    · subst e; exact ho.ne_blk h.f.1 (by decide) hg
    · exact ha g e.symm hg
  have hap {B : Option Addr} {n cB : Nat} {xs : List Value} (ho : Own w 5 1 B n cB xs) (ha : Apart2 A' B) : Apart2 A1 B := by
    rcases hA1 with e | e
    · intro g h1 h2; exact ha g (by rw [← e]; exact h1) h2
    · exact Apart2.fresh (w := w) (fun g hg => ho.lt hg) e
  refine ⟨h.d.upd hu (hne h.d.1 (by decide) (by decide)) (hown h.d.2 h.a1.symm), hd, h.k.upd hu (hne h.k.1 (by decide) (by decide)) (hown h.k.2 h.a3), h.x.upd hu (hne h.x (by decide) (by decide)),
    h.hp, h.hq, h.hr, h.hpr, h.hA, ?_, h.hAc, (hap h.d.2 h.a1.symm).symm, h.a2, hap h.k.2 h.a3, ?_⟩
  · intro g hg
    rcases hA1 with e | e
    · exact h.hA' g (by rw [← e]; exact hg)
    · exact Nat.le_trans h.bel.size (e g hg)
  · refine h.bel.trans (hu.below h.bel.size ?_)
    rintro k hk (rfl | e)
    · have := h.hq; omega
    · have := h.hA' k e.symm; omega

theorem conv_own {A : Option Addr} {n c : Nat} {bs : List UInt8} {w : World} (h : Own w 5 1 A n c (bys bs)) : (convert 22 9 (.slice A n c)).run Try.prog w = .ok (.string (bstr bs)) w :=
  run_bytes_str (P := Try.prog) 22 5 Try.underlying22 Try.underlying5 9 Try.underlying9 c h.reads_
theorem Trio.below (h : Trio W w p q r X bs s bs' s' bc sc cx A A' Ac c c' cc) (hb : Below w.heap.size w w') : Trio W w' p q r X bs s bs' s' bc sc cx A A' Ac c c' cc :=
  ⟨h.d.below hb (Nat.le_refl _), h.f.below hb (Nat.le_refl _), h.k.below hb (Nat.le_refl _), h.x.below hb h.x.lt, h.hp, h.hq, h.hr, h.hpr, h.hA, h.hA', h.hAc, h.a1, h.a2, h.a3, h.bel.trans (hb.mono h.bel.size)⟩
theorem trio_sync (h : Trio W w p q r X bs s bs' s' bc sc cx A A' Ac c c' cc) :
    Calls Try.prog 9 #[.pointer (some ⟨p, 0, none⟩)] w (TrioNow W p q r X bs bs.length bs' s' bc sc cx) :=
  (disk_sync h.d).mono fun _ _ ⟨he, hd, hu⟩ => ⟨he, _, _, _, _, _, _, h.disk hd (hu.mono fun _ _ e => .inl e) (.inl rfl)⟩
theorem trio_refsync (h : Trio W w p q r X bs s bs' s' bc sc cx A A' Ac c c' cc) :
    Trio W (w.setCell ⟨q, 1, none⟩ (.int .i64 (bs'.length : Int))) p q r X bs s bs' bs'.length bc sc cx A A' Ac c c' cc :=
  h.ref ⟨h.f.1.set_ 1 _, h.f.2.setCell (h.f.2.ne_blk h.f.1 (by decide)) _⟩ ((Upd.set_ w ⟨q, 1, none⟩ _).mono fun _ _ e => .inl e) (.inl rfl)
theorem trio_truncate (n : Int) (h : Trio W w p q r X bs s bs' s' bc sc cx A A' Ac c c' cc) (hl : bs.length ≤ 1000000) :
    Calls Try.prog 14 #[.pointer (some ⟨p, 0, none⟩), .int .i64 n] w (TrioNow W p q r X (bs.take (cutAt n bs.length)) (bs.take (cutAt n bs.length)).length bs' s' bc sc cx) :=
  (disk_truncate n h.d hl).mono fun _ _ ⟨he, _, hd, hu⟩ => ⟨he, _, _, _, _, _, _, h.disk hd (hu.mono fun _ _ e => .inl e) (.inl rfl)⟩
theorem trio_crash (n : Int) (h : Trio W w p q r X bs s bs' s' bc sc cx A A' Ac c c' cc) (hl : bs.length ≤ 1000000) (hs : s ≤ bs.length) :
    Calls Try.prog 11 #[.pointer (some ⟨p, 0, none⟩), .int .i64 n] w (TrioNow W p q r X (bs.take (s + cutAt n (bs.length - s))) (bs.take (s + cutAt n (bs.length - s))).length bs' s' bc sc cx) :=
  (disk_crash n h.d hl hs).mono fun _ _ ⟨he, _, hd, hu⟩ => ⟨he, _, _, _, _, _, _, h.disk hd (hu.mono fun _ _ e => .inl e) (.inl rfl)⟩
theorem trio_append {A2 : Option Addr} {b2 : List UInt8} {c2 B : Nat} (h : Trio W w p q r X bs s bs' s' bc sc cx A A' Ac c c' cc) (hr : Reads w B 1 A2 b2.length (bys b2)) (hl : bs.length + b2.length ≤ 1000000) :
    Calls Try.prog 8 #[.pointer (some ⟨p, 0, none⟩), .slice A2 b2.length c2] w (TrioNow W p q r X (bs ++ b2) s bs' s' bc sc cx) :=
  (disk_append h.d hr hl).mono fun _ _ ⟨he, _, _, hd, hu, hA⟩ => ⟨he, _, _, _, _, _, _, h.disk hd hu hA⟩
theorem trio_rtruncate (n : Int) (h : Trio W w p q r X bs s bs' s' bc sc cx A A' Ac c c' cc) (hl : bs'.length ≤ 1000000) :
    Calls Try.prog 15 #[.pointer (some ⟨q, 0, none⟩), .int .i64 n] w (TrioNow W p q r X bs s (bs'.take (cutAt n bs'.length)) (bs'.take (cutAt n bs'.length)).length bc sc cx) :=
  (ref_truncate n h.f hl).mono fun _ _ ⟨he, hd, hu⟩ => ⟨he, _, _, _, _, _, _, h.ref hd (hu.mono fun _ _ e => .inl e) (.inl rfl)⟩
theorem trio_rcrash (n : Int) (h : Trio W w p q r X bs s bs' s' bc sc cx A A' Ac c c' cc) (hl : bs'.length ≤ 1000000) (hs : s' ≤ bs'.length) :
    Calls Try.prog 16 #[.pointer (some ⟨q, 0, none⟩), .int .i64 n] w (TrioNow W p q r X bs s (bs'.take (s' + cutAt n (bs'.length - s'))) (bs'.take (s' + cutAt n (bs'.length - s'))).length bc sc cx) :=
  (ref_crash n h.f hl hs).mono fun _ _ ⟨he, hd, hu⟩ => ⟨he, _, _, _, _, _, _, h.ref hd (hu.mono fun _ _ e => .inl e) (.inl rfl)⟩
theorem trio_rappend {A2 : Option Addr} {b2 : List UInt8} {c2 B : Nat} (h : Trio W w p q r X bs s bs' s' bc sc cx A A' Ac c c' cc) (hr : Reads w B 1 A2 b2.length (bys b2)) (hl : bs'.length + b2.length ≤ 1000000) :
    Calls Try.prog 17 #[.pointer (some ⟨q, 0, none⟩), .slice A2 b2.length c2] w (TrioNow W p q r X bs s (bs' ++ b2) s' bc sc cx) :=
  (ref_append h.f hr hl).mono fun _ _ ⟨he, _, _, hd, hu, hA⟩ => ⟨he, _, _, _, _, _, _, h.ref hd hu hA⟩
end

structure ActD where
  what : Int
  n : Int
  b : List UInt8

def ActsAt (w : World) (B : Nat) (A : Option Addr) (acts : List ActD) : Prop :=
  0 < acts.length → ∃ ad, A = some ad ∧ ad.block < B ∧ ∀ (i : Nat) (x : ActD), acts[i]? = some x → (0 ≤ x.what ∧ x.what ≤ 255 ∧ -9223372036854775808 ≤ x.n ∧ x.n ≤ 9223372036854775807) ∧ w.cell? (ad.add (i * 3)) = some (.int .u8 x.what) ∧ w.cell? (ad.add (i * 3 + 1)) = some (.int .i64 x.n) ∧
    ∃ C c, w.cell? (ad.add (i * 3 + 2)) = some (.slice C x.b.length c) ∧ Reads w B 1 C x.b.length (bys x.b)

theorem ActsAt.below {w w' : World} {B : Nat} {A : Option Addr} {acts : List ActD} (h : ActsAt w B A acts) (hb : Below B w w') : ActsAt w' B A acts := fun hn => by
  obtain ⟨ad, e, hlt, hall⟩ := h hn
  refine ⟨ad, e, hlt, fun i x hx => ?_⟩
  obtain ⟨h0, h1, h2, C, c, h3, h4⟩ := hall i x hx
  exact ⟨h0, (hb.cell (by rw [block_of_add]; exact hlt)).trans h1, (hb.cell (by rw [block_of_add]; exact hlt)).trans h2, C, c, (hb.cell (by rw [block_of_add]; exact hlt)).trans h3, h4.below hb⟩

structure Pair (W w : World) (p q : Nat) (bs : List UInt8) (s : Nat) (A A' : Option Addr) (c c' : Nat) : Prop where
  d : DiskAt w p A c bs s
  f : RefAt w q A' c' bs s
  hp : W.heap.size ≤ p
  hq : W.heap.size ≤ q
  hA : ∀ g, bOf A = some g → W.heap.size ≤ g
  hA' : ∀ g, bOf A' = some g → W.heap.size ≤ g
  a1 : Apart2 A A'
  bel : Below W.heap.size W w

def Same (W w : World) (p q : Nat) (m : Nat) : Prop := ∃ bs s A A' c c', Pair W w p q bs s A A' c c' ∧ s ≤ bs.length ∧ bs.length ≤ 60 * m

set_option maxRecDepth 100000 in
set_option maxHeartbeats 4000000 in
theorem plays_walk (A : Option Addr) (ca : Nat) (acts : List ActD) (w : World) (ha : ActsAt w w.heap.size A acts) :
    Calls Try.prog 4 #[.slice A acts.length ca] w (SaysTrue w) := by
  by_cases h1 : 60 < acts.length
  · go_enter Try.func4, Try.ntmps4
    go_wp2_with fail
    refine (known_true _).mono ?_
    rintro e w1 ⟨rfl, hb1⟩
    go_wp2_with fail
    go_ret
    exact ⟨rfl, hb1⟩
  go_enter Try.func4, Try.ntmps4
  go_wp2_with fail
  refine (known_true _).mono ?_
  rintro e w1 ⟨rfl, hb1⟩
  go_wp2_with fail
  refine (disk_new _).mono ?_
  rintro e w2 ⟨p, A2, c2, rfl, hd2, hb2, hp2, hA2⟩
  go_wp2_with fail
  have hq2 := Nat.le_trans hb1.size hb2.size
  have hsame : Same w (w2.alloc (.cells #[.slice none 0 0, .int .i64 0] 34)) p w2.heap.size 0 :=
    ⟨[], 0, A2, none, c2, 0, ⟨hd2.alloc _, ⟨Blk.new _ _ _, Own.none_⟩, Nat.le_trans hb1.size hp2, hq2, fun g hg => Nat.le_trans hb1.size (hA2 g hg), by simp [bOf], by intro g _ h; simp [bOf] at h, (hb1.trans (hb2.mono hb1.size)).alloc hq2 _⟩, Nat.le_refl _, by simp⟩
  clear hd2 hb2 hp2 hA2 hq2 hb1
  generalize w2.alloc (.cells #[.slice none 0 0, .int .i64 0] 34) = w3 at *
  generalize w2.heap.size = q at *
  go_loopw [5] (fun i wr => ∃ k : Nat, k ≤ acts.length ∧ i = .int .i64 k ∧ Same w wr p q k) (fun i _ => acts.length - (intOf i).toNat)
  case atStart => exact ⟨0, Nat.zero_le _, rfl, hsame⟩
  case round =>
    obtain ⟨k, hk, rfl, bs, s, A3, A4, c3, c4, hpair, hs, hbl⟩ := hrel
    clear hsame
    by_cases hlt : k < acts.length
    · obtain ⟨ad, rfl, hadb, hall⟩ := ha (by omega)
      obtain ⟨x, hx⟩ : ∃ x, acts[k]? = some x := ⟨_, List.getElem?_eq_getElem hlt⟩
      obtain ⟨⟨hx0, hx1, hx2, hx3⟩, y0, y1, C, cC, y2, hrd⟩ := hall k x hx
      clear hall ha
      replace y0 := (hpair.bel.cell (by rw [block_of_add]; exact hadb)).trans y0
      replace y1 := (hpair.bel.cell (by rw [block_of_add]; exact hadb)).trans y1
      replace y2 := (hpair.bel.cell (by rw [block_of_add]; exact hadb)).trans y2
      rw [add_pos] at y1 y2
      simp only [Nat.zero_add, Nat.reduceAdd] at y1 y2
      by_cases hb60 : 60 < x.b.length
      · go_wp2_with fail
        go_ret
        exact ⟨rfl, hpair.bel.alloc hpair.bel.size _⟩
      have hx6 : 0 ≤ x.what % 6 ∧ x.what % 6 ≤ 5 := ⟨Int.emod_nonneg _ (by decide), by have := Int.emod_lt_of_pos x.what (show (0 : Int) < 6 by decide); omega⟩
      go_wp2_with fail
      have hdx : DiskAt (wr.alloc (.cells #[.int .u8 x.what, .int .i64 x.n, .slice C x.b.length cC] 36)) p A3 c3 bs s := hpair.d.alloc _
      refine (disk_clone hdx (by omega)).mono ?_
      rintro e w4 ⟨r, A5, c5, rfl, hd5, hb5, hr5, hA5⟩
      have htrio : Trio w w4 p q r wr.heap.size bs s bs s bs s #[.int .u8 x.what, .int .i64 x.n, .slice C x.b.length cC] A3 A4 A5 c3 c4 c5 := by
        have hsz : (wr.alloc (.cells #[.int .u8 x.what, .int .i64 x.n, .slice C x.b.length cC] 36)).heap.size = wr.heap.size + 1 := by simp
        have hw := hpair.bel.size
        have hplt := hpair.d.lt
        refine ⟨hdx.below hb5 (Nat.le_refl _), RefAt.below (w := wr.alloc _) ⟨hpair.f.1.alloc _, hpair.f.2.alloc _⟩ hb5 (Nat.le_refl _), hd5, (Blk.new wr _ _).below hb5 (by omega), hpair.hp, hpair.hq, by omega, by omega, hpair.hA, hpair.hA', fun g hg => by have := hA5 g hg; omega,
          hpair.a1, (Apart2.fresh (w := wr) (fun g hg => hpair.d.2.lt hg) (fun g hg => by have := hA5 g hg; omega)).symm, (Apart2.fresh (w := wr) (fun g hg => hpair.f.2.lt hg) (fun g hg => by have := hA5 g hg; omega)).symm, (hpair.bel.alloc hw _).trans (hb5.mono (by omega))⟩
      have hcl : Reads w4 w.heap.size 1 C x.b.length (bys x.b) := hrd.below htrio.bel
      have hX := htrio.x
      have hrd0 := hrd
      clear hdx hd5 hb5 hr5 hA5 hpair y0 y1 y2 hrd
      generalize wr.heap.size = X at *
      clear wr
      go_wp2_with fail
      have hlb : bs.length ≤ 1000000 := by omega
      refine wp_region_lex (fun W => Below w4.heap.size w4 W) [2] [1, 4] [0, 3, 1, 2, 4, 5, 6] (by kernel_rfl) rfl (by kernel_rfl) (by kernel_rfl) (fun _ _ d _ _ h => by cases d <;> exact h) ?_
      have hS : Below w4.heap.size w4 w4.drew := (Below.refl _ _).drew
      repeat (first | (refine lexG_take _ ?_ rfl rfl rfl rfl (fun _ => ?_) ?_; rotate_left; (focus (go_simp; with_reducible rfl)); try simp only [Act.put, List.setIfInBounds_toArray, List.set_cons_zero, List.set_cons_succ]) | (refine lexG_held _ ?_ rfl rfl rfl rfl (by assumption) (fun _ hSw => ?_) ?_; rotate_left; (focus ((try dsimp only at hSw); go_simp; with_reducible rfl)); try simp only [Act.put, List.setIfInBounds_toArray, List.set_cons_zero, List.set_cons_succ]) | (refine lexG_skip _ rfl rfl (by assumption) ?_; try simp only [Act.put, List.setIfInBounds_toArray, List.set_cons_zero, List.set_cons_succ]))
      refine lexG_now _ rfl rfl rfl (fun K hK => ?_)
      go_wp2_with fail
      refine (disk_bytes (htrio.d.below hS (Nat.le_refl _)) hlb).mono ?_
      rintro e w5 ⟨A8, c8, rfl, ho8, hb8, hg8⟩
      dsimp only
      have hS5 : Below w4.heap.size w4 w5 ∧ Own w5 5 1 A8 bs.length c8 (bys bs) := ⟨below_then hb8 hS, ho8⟩
      refine hK _ _ (fun W => Below w4.heap.size w4 W ∧ Own W 5 1 A8 bs.length c8 (bys bs)) (fun _ h => h.1) hS5 ?_
      clear hK K hS hb8 hg8 ho8
      have kc : ∀ W, Own W 5 1 A8 bs.length c8 (bys bs) → (convert 22 9 (.slice A8 bs.length c8)).run Try.prog W = .ok (.string (bstr bs)) W := fun W h => conv_own h
      try simp only [Act.put, List.setIfInBounds_toArray, List.set_cons_zero, List.set_cons_succ]
      repeat (first | (refine lexG_take _ ?_ rfl rfl rfl rfl (fun _ => ?_) ?_; rotate_left; (focus (go_simp; with_reducible rfl)); try simp only [Act.put, List.setIfInBounds_toArray, List.set_cons_zero, List.set_cons_succ]) | (refine lexG_held _ ?_ rfl rfl rfl rfl (by assumption) (fun _ hSw => ?_) ?_; rotate_left; (focus ((try dsimp only at hSw); go_simp; with_reducible rfl)); try simp only [Act.put, List.setIfInBounds_toArray, List.set_cons_zero, List.set_cons_succ]) | (refine lexG_skip _ rfl rfl (by assumption) ?_; try simp only [Act.put, List.setIfInBounds_toArray, List.set_cons_zero, List.set_cons_succ]))
      clear kc
      refine lexG_now _ rfl rfl rfl (fun K hK => ?_)
      go_wp2_with fail
      refine (disk_sure (htrio.d.below hS5.1 (Nat.le_refl _))).mono ?_
      rintro e w6 ⟨rfl, rfl⟩
      dsimp only
      refine hK _ _ _ (fun _ h => h) hS5 ?_
      clear hK K
      try simp only [Act.put, List.setIfInBounds_toArray, List.set_cons_zero, List.set_cons_succ]
      repeat (first | (refine lexG_take _ ?_ rfl rfl rfl rfl (fun _ => ?_) ?_; rotate_left; (focus (go_simp; with_reducible rfl)); try simp only [Act.put, List.setIfInBounds_toArray, List.set_cons_zero, List.set_cons_succ]) | (refine lexG_held _ ?_ rfl rfl rfl rfl (by assumption) (fun _ hSw => ?_) ?_; rotate_left; (focus ((try dsimp only at hSw); go_simp; with_reducible rfl)); try simp only [Act.put, List.setIfInBounds_toArray, List.set_cons_zero, List.set_cons_succ]) | (refine lexG_skip _ rfl rfl (by assumption) ?_; try simp only [Act.put, List.setIfInBounds_toArray, List.set_cons_zero, List.set_cons_succ]))
      refine lexG_nil ?_
      have hd5 := htrio.d.below hS5.1 (Nat.le_refl _)
      have htr := htrio.below hS5.1
      have hc5 := hcl.below (hS5.1.mono htrio.bel.size)
      clear hS5 hcl htrio hX hd5
      have hX := htr.x
      have x0 := hX.cell 0
      have x1 := hX.cell 1
      have x2 := hX.cell 2
      clear w4
      -- the switch: four ways, each to two disks that are alike
      have hc := hrd0
      rcases (by omega : x.what % 6 = 3 ∨ x.what % 6 = 4 ∨ x.what % 6 = 5 ∨ (x.what % 6 ≠ 3 ∧ x.what % 6 ≠ 4 ∧ x.what % 6 ≠ 5)) with h6 | h6 | h6 | ⟨h63, h64, h65⟩
      case' inl =>
        have t3 : (x.what % 6 == 3) = true := by simp [h6]
        have H6 := Lib.hid h6; clear h6
        go_wp2_with fail
        refine (trio_sync htr).mono ?_
        rintro e w6 ⟨rfl, B1, B2, B3, d1, d2, d3, ht6⟩
        have q0 := ht6.f.1.cell 0
        have q1 := ht6.f.1.cell 1
        have f1 := ht6.f.1.frozen 1
        clear x0 x1 x2 hX
        go_wp2_with fail
        have ht7 := trio_refsync ht6
        clear q0 q1 f1 ht6 htr
        generalize w6.setCell ⟨q, 1, none⟩ (.int .i64 (bs.length : Int)) = wz at *
        obtain ⟨b1, s1, hs1, hb1, ht⟩ : ∃ b1 s1, s1 ≤ b1.length ∧ b1.length ≤ 60 * (k + 1) ∧ Trio w wz p q r X b1 s1 b1 s1 bs s #[.int .u8 x.what, .int .i64 x.n, .slice C x.b.length cC] B1 B2 B3 d1 d2 d3 := ⟨_, _, Nat.le_refl _, by omega, ht7⟩
        clear ht7 w6
      case' inr.inl =>
        have t3 : (x.what % 6 == 3) = false := by simp; omega
        have t4 : (x.what % 6 == 4) = true := by simp [h6]
        have H6 := Lib.hid h6; clear h6
        go_wp2_with fail
        refine (trio_truncate x.n htr hlb).mono ?_
        rintro e w6 ⟨rfl, B1, B2, B3, d1, d2, d3, ht6⟩
        have x0 := ht6.x.cell 0
        have x1 := ht6.x.cell 1
        have x2 := ht6.x.cell 2
        clear hX htr
        go_wp2_with fail
        refine (trio_rtruncate x.n ht6 hlb).mono ?_
        rintro e wz ⟨rfl, B1, B2, B3, d1, d2, d3, ht7⟩
        go_wp2_with fail
        obtain ⟨b1, s1, hs1, hb1, ht⟩ : ∃ b1 s1, s1 ≤ b1.length ∧ b1.length ≤ 60 * (k + 1) ∧ Trio w wz p q r X b1 s1 b1 s1 bs s #[.int .u8 x.what, .int .i64 x.n, .slice C x.b.length cC] B1 B2 B3 d1 d2 d3 := ⟨_, _, Nat.le_refl _, by rw [List.length_take]; omega, ht7⟩
        clear ht7 ht6 x0 x1 x2
      case' inr.inr.inl =>
        have t3 : (x.what % 6 == 3) = false := by simp; omega
        have t4 : (x.what % 6 == 4) = false := by simp; omega
        have t5 : (x.what % 6 == 5) = true := by simp [h6]
        have H6 := Lib.hid h6; clear h6
        go_wp2_with fail
        refine (trio_crash x.n htr hlb hs).mono ?_
        rintro e w6 ⟨rfl, B1, B2, B3, d1, d2, d3, ht6⟩
        have x0 := ht6.x.cell 0
        have x1 := ht6.x.cell 1
        have x2 := ht6.x.cell 2
        clear hX htr
        go_wp2_with fail
        refine (trio_rcrash x.n ht6 hlb hs).mono ?_
        rintro e wz ⟨rfl, B1, B2, B3, d1, d2, d3, ht7⟩
        go_wp2_with fail
        obtain ⟨b1, s1, hs1, hb1, ht⟩ : ∃ b1 s1, s1 ≤ b1.length ∧ b1.length ≤ 60 * (k + 1) ∧ Trio w wz p q r X b1 s1 b1 s1 bs s #[.int .u8 x.what, .int .i64 x.n, .slice C x.b.length cC] B1 B2 B3 d1 d2 d3 := ⟨_, _, Nat.le_refl _, by rw [List.length_take]; omega, ht7⟩
        clear ht7 ht6 x0 x1 x2
      case' inr.inr.inr =>
        have t3 : (x.what % 6 == 3) = false := by simp [h63]
        have t4 : (x.what % 6 == 4) = false := by simp [h64]
        have t5 : (x.what % 6 == 5) = false := by simp [h65]
        go_wp2_with fail
        refine (trio_append htr hc5 (by omega)).mono ?_
        rintro e w6 ⟨rfl, B1, B2, B3, d1, d2, d3, ht6⟩
        have x0 := ht6.x.cell 0
        have x1 := ht6.x.cell 1
        have x2 := ht6.x.cell 2
        have hc6 := hc.below ht6.bel
        clear hX htr
        go_wp2_with fail
        refine (trio_rappend ht6 hc6 (by omega)).mono ?_
        rintro e wz ⟨rfl, B1, B2, B3, d1, d2, d3, ht7⟩
        go_wp2_with fail
        obtain ⟨b1, s1, hs1, hb1, ht⟩ : ∃ b1 s1, s1 ≤ b1.length ∧ b1.length ≤ 60 * (k + 1) ∧ Trio w wz p q r X b1 s1 b1 s1 bs s #[.int .u8 x.what, .int .i64 x.n, .slice C x.b.length cC] B1 B2 B3 d1 d2 d3 := ⟨_, _, by rw [List.length_append]; omega, by rw [List.length_append]; omega, ht7⟩
        clear ht7 ht6 x0 x1 x2 hc6
      all_goals
        have hl1 : b1.length ≤ 1000000 := by omega
        have hq0 : ∀ W, Below wz.heap.size wz W → W.cell? ⟨q, 0, none⟩ = some (.slice B2 b1.length d2) := fun W h => (h.cell ht.f.lt).trans (ht.f.1.cell 0)
        have hq1 : ∀ W, Below wz.heap.size wz W → W.cell? ⟨q, 1, none⟩ = some (.int .i64 (s1 : Int)) := fun W h => (h.cell ht.f.lt).trans (ht.f.1.cell 1)
        have kq : ∀ W, Below wz.heap.size wz W → (convert 22 9 (.slice B2 b1.length d2)).run Try.prog W = .ok (.string (bstr b1)) W := fun W h => conv_own (ht.f.2.below h (Nat.le_refl _))
        refine wp_region_lex (fun W => Below wz.heap.size wz W) [2, 6, 7, 15, 21] [1, 11, 20, 27] [0, 3, 4, 5, 6, 7, 1, 2, 8, 9, 10, 12, 13, 14, 15, 11, 16, 17, 18, 19, 22, 20, 21, 23, 24, 25, 26, 28, 27, 29, 30] (by kernel_rfl) rfl (by kernel_rfl) (by kernel_rfl) (fun _ _ d _ _ h => by cases d <;> exact h) ?_
        have hS : Below wz.heap.size wz wz.drew := (Below.refl _ _).drew
        repeat (first | (refine lexG_take _ ?_ rfl rfl rfl rfl (fun _ => ?_) ?_; rotate_left; (focus (go_simp; with_reducible rfl)); try simp only [Act.put, List.setIfInBounds_toArray, List.set_cons_zero, List.set_cons_succ]) | (refine lexG_held _ ?_ rfl rfl rfl rfl (by assumption) (fun _ hSw => ?_) ?_; rotate_left; (focus ((try dsimp only at hSw); go_simp; with_reducible rfl)); try simp only [Act.put, List.setIfInBounds_toArray, List.set_cons_zero, List.set_cons_succ]) | (refine lexG_skip _ rfl rfl (by assumption) ?_; try simp only [Act.put, List.setIfInBounds_toArray, List.set_cons_zero, List.set_cons_succ]))
        refine lexG_now _ rfl rfl rfl (fun K hK => ?_)
        go_wp2_with fail
        refine (disk_bytes (ht.d.below hS (Nat.le_refl _)) hl1).mono ?_
        rintro e w8 ⟨A8, c8, rfl, ho8, hb8, hg8⟩
        dsimp only
        have hS8 : Below wz.heap.size wz w8 ∧ Own w8 5 1 A8 b1.length c8 (bys b1) := ⟨below_then hb8 hS, ho8⟩
        refine hK _ _ (fun W => Below wz.heap.size wz W ∧ Own W 5 1 A8 b1.length c8 (bys b1)) (fun _ h => h.1) hS8 ?_
        clear hK K hS hb8 hg8 ho8
        have kc : ∀ W, Own W 5 1 A8 b1.length c8 (bys b1) → (convert 22 9 (.slice A8 b1.length c8)).run Try.prog W = .ok (.string (bstr b1)) W := fun W h => conv_own h
        try simp only [Act.put, List.setIfInBounds_toArray, List.set_cons_zero, List.set_cons_succ]
        repeat (first | (refine lexG_take _ ?_ rfl rfl rfl rfl (fun _ => ?_) ?_; rotate_left; (focus (go_simp; with_reducible rfl)); try simp only [Act.put, List.setIfInBounds_toArray, List.set_cons_zero, List.set_cons_succ]) | (refine lexG_held _ ?_ rfl rfl rfl rfl (by assumption) (fun _ hSw => ?_) ?_; rotate_left; (focus ((try dsimp only at hSw); go_simp; with_reducible rfl)); try simp only [Act.put, List.setIfInBounds_toArray, List.set_cons_zero, List.set_cons_succ]) | (refine lexG_skip _ rfl rfl (by assumption) ?_; try simp only [Act.put, List.setIfInBounds_toArray, List.set_cons_zero, List.set_cons_succ]))
        clear kc
        refine lexG_now _ rfl rfl rfl (fun K hK => ?_)
        go_wp2_with fail
        refine (disk_sure (ht.d.below hS8.1 (Nat.le_refl _))).mono ?_
        rintro e w9 ⟨rfl, rfl⟩
        dsimp only
        refine hK _ _ _ (fun _ h => h) hS8 ?_
        clear hK K
        try simp only [Act.put, List.setIfInBounds_toArray, List.set_cons_zero, List.set_cons_succ]
        repeat (first | (refine lexG_take _ ?_ rfl rfl rfl rfl (fun _ => ?_) ?_; rotate_left; (focus (go_simp; with_reducible rfl)); try simp only [Act.put, List.setIfInBounds_toArray, List.set_cons_zero, List.set_cons_succ]) | (refine lexG_held _ ?_ rfl rfl rfl rfl (by assumption) (fun _ hSw => ?_) ?_; rotate_left; (focus ((try dsimp only at hSw); go_simp; with_reducible rfl)); try simp only [Act.put, List.setIfInBounds_toArray, List.set_cons_zero, List.set_cons_succ]) | (refine lexG_skip _ rfl rfl (by assumption) ?_; try simp only [Act.put, List.setIfInBounds_toArray, List.set_cons_zero, List.set_cons_succ]))
        refine lexG_now _ rfl rfl rfl (fun K hK => ?_)
        go_wp2_with fail
        refine (disk_bytes (ht.k.below hS8.1 (Nat.le_refl _)) hlb).mono ?_
        rintro e w10 ⟨A10, c10, rfl, ho10, hb10, hg10⟩
        dsimp only
        have hS10 : (Below wz.heap.size wz w10 ∧ Own w10 5 1 A8 b1.length c8 (bys b1)) ∧ Own w10 5 1 A10 bs.length c10 (bys bs) := ⟨⟨below_then hb10 hS8.1, hS8.2.below hb10 (Nat.le_refl _)⟩, ho10⟩
        refine hK _ _ (fun W => (Below wz.heap.size wz W ∧ Own W 5 1 A8 b1.length c8 (bys b1)) ∧ Own W 5 1 A10 bs.length c10 (bys bs)) (fun _ h => h.1) hS10 ?_
        clear hK K hS8 hb10 hg10 ho10
        have kc : ∀ W, Own W 5 1 A10 bs.length c10 (bys bs) → (convert 22 9 (.slice A10 bs.length c10)).run Try.prog W = .ok (.string (bstr bs)) W := fun W h => conv_own h
        try simp only [Act.put, List.setIfInBounds_toArray, List.set_cons_zero, List.set_cons_succ]
        repeat (first | (refine lexG_take _ ?_ rfl rfl rfl rfl (fun _ => ?_) ?_; rotate_left; (focus (go_simp; with_reducible rfl)); try simp only [Act.put, List.setIfInBounds_toArray, List.set_cons_zero, List.set_cons_succ]) | (refine lexG_held _ ?_ rfl rfl rfl rfl (by assumption) (fun _ hSw => ?_) ?_; rotate_left; (focus ((try dsimp only at hSw); go_simp; with_reducible rfl)); try simp only [Act.put, List.setIfInBounds_toArray, List.set_cons_zero, List.set_cons_succ]) | (refine lexG_skip _ rfl rfl (by assumption) ?_; try simp only [Act.put, List.setIfInBounds_toArray, List.set_cons_zero, List.set_cons_succ]))
        clear kc
        refine lexG_now _ rfl rfl rfl (fun K hK => ?_)
        go_wp2_with fail
        refine (disk_sure (ht.k.below hS10.1.1 (Nat.le_refl _))).mono ?_
        rintro e w11 ⟨rfl, rfl⟩
        dsimp only
        refine hK _ _ _ (fun _ h => h) hS10 ?_
        clear hK K
        try simp only [Act.put, List.setIfInBounds_toArray, List.set_cons_zero, List.set_cons_succ]
        repeat (first | (refine lexG_take _ ?_ rfl rfl rfl rfl (fun _ => ?_) ?_; rotate_left; (focus (go_simp; with_reducible rfl)); try simp only [Act.put, List.setIfInBounds_toArray, List.set_cons_zero, List.set_cons_succ]) | (refine lexG_held _ ?_ rfl rfl rfl rfl (by assumption) (fun _ hSw => ?_) ?_; rotate_left; (focus ((try dsimp only at hSw); go_simp; with_reducible rfl)); try simp only [Act.put, List.setIfInBounds_toArray, List.set_cons_zero, List.set_cons_succ]) | (refine lexG_skip _ rfl rfl (by assumption) ?_; try simp only [Act.put, List.setIfInBounds_toArray, List.set_cons_zero, List.set_cons_succ]))
        refine lexG_nil ?_
        have hpr2 : Pair w w10 p q b1 s1 B1 B2 d1 d2 := ⟨ht.d.below hS10.1.1 (Nat.le_refl _), ht.f.below hS10.1.1 (Nat.le_refl _), ht.hp, ht.hq, ht.hA, ht.hA', ht.a1, ht.bel.trans (hS10.1.1.mono ht.bel.size)⟩
        clear hS10 hq0 hq1 kq ht
        go_wp2_with fail
        go_roundw
        case rel => exact ⟨k + 1, by omega, by go_num, b1, s1, B1, B2, d1, d2, hpr2, hs1, hb1⟩
        case measure => simp [intOf]; omega
    · go_wp2_with fail
      go_ret
      exact ⟨rfl, hpair.bel⟩
end Go.Proofs.Ytmebhnkmfdffoaa
