/- call.Read's closure: a call's parts, one by one. -/
import Derived.Test.YtlkokkbikkbaoaaRdI
import Derived.Deep.MidRow
import Derived.Test.YtlkokkbikkbaoaaPlan
set_option linter.unusedSimpArgs false
set_option linter.unusedVariables false
set_option linter.unusedSimpArgs false
set_option linter.unusedVariables false
namespace Go.Proofs.Ytlkokkbikkbaoaa
open Go.RowKit
set_option maxRecDepth 100000

/-- The last of an owned row's items, written. -/
theorem own_last {w : World} {t : TypeId} {size g n c : Nat} {xs zs news : List Value} (h : Own w t size (some ⟨g, 0, none⟩) (n + 1) c (xs ++ zs)) (hx : xs.length = n * size) (hz : zs.length = size) (hn : news.length = size) :
    Own (w.setCells g (n * size) news) t size (some ⟨g, 0, none⟩) (n + 1) c (xs ++ news) ∧ w.there g (n * size) size := by
  have hl : (xs ++ news).length = (n + 1) * size := by rw [List.length_append, hx, hn, Nat.add_mul, Nat.one_mul]
  rcases h.2 with ⟨h', _⟩ | ⟨g', cur, he, hg, hnc, hcm, hcs, htake⟩
  · cases h'
  · have hgg : g' = g := by injection he with he; injection he with he; exact he.symm
    subst hgg
    have h1 : (n + 1) * size ≤ cur.size := Nat.le_trans (Nat.mul_le_mul_right _ hnc) hcs
    have h2 : (n + 1) * size = n * size + size := by rw [Nat.add_mul, Nat.one_mul]
    obtain ⟨cur', q1, q2, q3⟩ := setCells_eq_setRow g' (n * size) t news cur w hg (by omega)
    refine ⟨⟨hl, .inr ⟨g', cur', rfl, q1, hnc, hcm, by omega, ?_⟩⟩, fun j hj => ⟨?_, Blk.frozen hg _⟩⟩
    · rw [q3]
      have ht : cur.toList.take (n * size) = xs := by
        have := congrArg (List.take (n * size)) htake
        rw [List.take_take, Nat.min_eq_left (by omega), List.take_left' hx] at this
        exact this
      rw [ht, List.take_append_of_le_length (by rw [List.length_append]; omega)]
      exact List.take_of_length_le (by rw [List.length_append]; omega)
    · rw [Blk.cell hg, Array.getElem?_eq_getElem (by omega)]; rfl

theorem VRow.push2 {w w9 : World} {b c c9 : Nat} {l : List Val} {A A9 : Option Addr} {xs : List Value} {css : Nat → Array Value} {v : Val} {cs : Array Value} {T : Nat → Prop} (R : VRow w b l A c xs css)
    (ho9 : Own w9 64 5 A9 (l.length + 1) c9 (xs ++ cs.toList)) (hA9 : ∀ g, bOf A9 = some g → b ≤ g) (hu : Upd (fun x => T x ∨ some x = bOf A) w w9) (hT : ∀ g, T g → g < b)
    (hf : bOf A9 = bOf A ∨ ∀ g, bOf A9 = some g → w.heap.size ≤ g) (hv : VOwn w9 (fun g => b ≤ g ∧ some g ≠ bOf A9) v cs) :
    VRow w9 b (l ++ [v]) A9 c9 (xs ++ cs.toList) (fun k => if k = l.length then cs else css k) := by
  have hxl : xs.length = l.length * 5 := R.ho.1
  have hfresh : ∀ g, g < w.heap.size → some g ≠ bOf A → some g ≠ bOf A9 := by
    intro g hg hne
    rcases hf with e | e
    · rw [e]; exact hne
    · intro e2
      have := e g e2.symm
      omega
  refine ⟨by simpa using ho9, hA9, ?_, ?_⟩
  · intro k u hku
    by_cases hk : k < l.length
    · rw [List.getElem?_append_left hk] at hku
      show VOwn _ _ u (if k = l.length then _ else css k)
      rw [if_neg (by omega)]
      refine ((((R.hx k u hku).mono (Q := fun g => (b ≤ g ∧ some g ≠ bOf A) ∧ g < w.heap.size) (fun g h1 h2 => ⟨h2, h1⟩))).upd hu (fun g hg e => ?_)).mono (fun g _ hg => ⟨hg.1.1, hfresh g hg.2 hg.1.2⟩)
      rcases e with e | e
      · have := hT g e; omega
      · exact hg.1.2 e
    · rw [List.getElem?_append_right (by omega)] at hku
      have hk0 : k = l.length := by
        have := (List.getElem?_eq_some_iff.1 hku).1
        simp at this; omega
      subst hk0
      simp at hku
      subst hku
      show VOwn _ _ v (if l.length = l.length then _ else _)
      rw [if_pos rfl]
      exact hv
  · intro k hk
    show _ = (if k = l.length then _ else css k).toList
    by_cases hk2 : k < l.length
    · rw [if_neg (by omega), ← R.hxs k hk2, List.drop_append_of_le_length (by omega), List.take_append_of_le_length (by rw [List.length_drop, hxl]; omega)]
    · have hk0 : k = l.length := by simp at hk; omega
      subst hk0
      rw [if_pos rfl, ← hxl, List.drop_left]
      have := hv.size
      rw [List.take_of_length_le (by simp [this])]

/-- What the reading of a call comes to. -/
def rdOp (b : List UInt8) : Option (OpD × Nat) :=
  if b.length < 10 then none
  else if (readT (b.drop 10) 32).2.2 ≠ 0 then none
  else if (readT (b.drop (10 + (readT (b.drop 10) 32).2.1)) 32).2.2 ≠ 0 then none
  else if b.length < 10 + (readT (b.drop 10) 32).2.1 + (readT (b.drop (10 + (readT (b.drop 10) 32).2.1)) 32).2.1 + 1 then none
  else if 16 < readU ((b.drop (10 + (readT (b.drop 10) 32).2.1 + (readT (b.drop (10 + (readT (b.drop 10) 32).2.1)) 32).2.1)).take 1) then none
  else match pl rdV (readU ((b.drop (10 + (readT (b.drop 10) 32).2.1 + (readT (b.drop (10 + (readT (b.drop 10) 32).2.1)) 32).2.1)).take 1)) (b.drop (10 + (readT (b.drop 10) 32).2.1 + (readT (b.drop (10 + (readT (b.drop 10) 32).2.1)) 32).2.1 + 1)) with
    | none => none
    | some (l, q) => some (⟨readU (b.take 4), readU ((b.drop 4).take 4), readU ((b.drop 8).take 2), (readT (b.drop 10) 32).1, (readT (b.drop (10 + (readT (b.drop 10) 32).2.1)) 32).1, l⟩, 10 + (readT (b.drop 10) 32).2.1 + (readT (b.drop (10 + (readT (b.drop 10) 32).2.1)) 32).2.1 + 1 + q)

theorem rdV_le {b : List UInt8} {v : Val} {m : Nat} (h : rdV b = some (v, m)) : m ≤ b.length := by
  unfold rdV at h
  cases hp : pv 8 b with
  | none => rw [hp] at h; cases h
  | some y =>
    obtain ⟨v', m'⟩ := y
    rw [hp] at h
    dsimp only at h
    split at h
    · cases h; exact pv_le 8 b v m hp
    · cases h
/-- What a call comes to, some of its args read. -/
def fin (c s n : Nat) (g m : List UInt8) (vs : List Val) (at_ : Nat) : Option (List Val × Nat) → Option (OpD × Nat)
  | none => none
  | some (l, q) => some (⟨c, s, n, g, m, vs ++ l⟩, at_ + q)
theorem fin_step (c s n : Nat) (g m : List UInt8) (vs : List Val) (at_ k : Nat) (b : List UInt8) (v : Val) (q : Nat) (hk : 0 < k) (h : rdV (b.drop at_) = some (v, q)) :
    fin c s n g m vs at_ (pl rdV k (b.drop at_)) = fin c s n g m (vs ++ [v]) (at_ + q) (pl rdV (k - 1) (b.drop (at_ + q))) := by
  rw [pl_some hk h, List.drop_drop]
  cases pl rdV (k - 1) (b.drop (at_ + q)) with
  | none => rfl
  | some x =>
    obtain ⟨l, q2⟩ := x
    show some _ = some _
    rw [List.append_assoc, Nat.add_assoc]
    rfl
theorem lit_reads {w : World} {g : Nat} (h : Blk w g 64 #[.int .i64 0, .int .i64 0, .float .f64 0, .string ⟨#[]⟩, .slice none 0 0]) : Reads w w.heap.size 5 (some ⟨g, 0, none⟩) 1 [.int .i64 0, .int .i64 0, .float .f64 0, .string ⟨#[]⟩, .slice none 0 0] :=
  ⟨rfl, fun _ => ⟨⟨g, 0, none⟩, rfl, h.lt, fun j u hj => by rw [add_row]; exact (h.cell j).trans (by simpa using hj)⟩⟩

structure ArgRel (w wr : World) (r pb ob : Nat) (ad : Addr) (b : List UInt8) (bl c c1 s1 n1 : Nat) (g m : List UInt8) (gg mm : ByteArray) (kk : Nat) (R : Option (OpD × Nat)) (j at_ : Nat) (vs : List Val) (A1 : Option Addr) (cc : Nat) (xs1 : List Value) (css1 : Nat → Array Value) : Prop where
  jl : j ≤ kk
  vl : vs.length = j
  al : at_ ≤ bl
  hR : CAt wr r (some ad) bl c at_
  hp : Blk wr pb 109 #[.pointer (some ⟨r, 0, none⟩)]
  ho : Blk wr ob 38 #[.int .u32 (c1 : Int), .int .u32 (s1 : Int), .int .u16 (n1 : Int), .string gg, .string mm, .slice A1 j cc]
  row : VRow wr w.heap.size vs A1 cc xs1 css1
  hu : Upd (fun x => x = r ∨ x = ob) w wr
  hf : Hid (fin c1 s1 n1 g m vs at_ (pl rdV (kk - j) (b.drop at_)) = R)

def ClRes (w : World) (r ob : Nat) (A : Option Addr) (bl c : Nat) (R : Option (OpD × Nat)) (e : Ending) (w' : World) : Prop :=
  match R with
  | some (o, q) => e = .returned (.tuple #[]) ∧ CAt w' r A bl c q ∧ (∃ A' c' xs css, Blk w' ob 38 #[.int .u32 (o.c : Int), .int .u32 (o.s : Int), .int .u16 (o.n : Int), .string (bstr o.g), .string (bstr o.m), .slice A' o.l.length c'] ∧ VRow w' w.heap.size o.l A' c' xs css) ∧ Upd (fun x => x = r ∨ x = ob) w w'
  | none => e = .panicked shortC ∧ Upd (fun x => x = r ∨ x = ob) w w'

set_option maxHeartbeats 6400000 in
theorem read_cl {A : Option Addr} {c B r pb ob : Nat} {b : List UInt8} {w : World} (h : CAt w r A b.length c 0) (hr : Reads w B 1 A b.length (bys b)) (hA : A = none → c = 0) (hB : B ≤ r) (hBo : B ≤ ob) (hc : b.length ≤ c) (hl : b.length ≤ 1000000000)
    (hpb : Blk w pb 109 #[.pointer (some ⟨r, 0, none⟩)]) (hob : Blk w ob 38 #[.int .u32 0, .int .u32 0, .int .u16 0, .string ⟨#[]⟩, .string ⟨#[]⟩, .slice none 0 0]) (R : Option (OpD × Nat)) (hR : rdOp b = R) :
    Calls Try.prog 56 #[.pointer (some ⟨pb, 0, none⟩), .pointer (some ⟨ob, 0, none⟩)] w (ClRes w r ob A b.length c R) := by
  have hsf := fun a k x m w => run_store_float (P := Try.prog) a k x m w
  obtain ⟨i1, gi, gz0, gz1, gz2⟩ := info_parts info_val
  have hpr : pb ≠ r := hpb.ne_ h (by decide)
  have hor : ob ≠ r := hob.ne_ h (by decide)
  have hpo : pb ≠ ob := hpb.ne_ hob (by decide)
  have p0 := hpb.cell 0
  by_cases h10 : b.length < 10
  · have hRn : R = none := by rw [← hR]; unfold rdOp; rw [if_pos h10]
    subst hRn
    have hno := cid_no h hr hA hB hc hl h10
    obtain ⟨bl, hbl⟩ : ∃ bl, b.length = bl := ⟨_, rfl⟩
    rw [hbl]
    replace hno := Lib.hid hno
    clear h hr hA hc hl hob hR h10 hbl
    go_enter Try.func56, Try.ntmps56
    go_wp2_with fail
    refine hno.out.mono ?_
    rintro e w2 ⟨rfl, hu⟩
    dsimp only
    have hu' : Upd (fun x => x = r ∨ x = ob) w w2 := hu.mono (fun _ _ h => .inl h)
    go_wp2_with fail
    exact ⟨rfl, rfl, hu'⟩
  obtain ⟨ad, rfl⟩ : ∃ ad, A = some ad := by
    cases A with
    | none => have := hA rfl; omega
    | some ad => exact ⟨ad, rfl⟩
  have hRR := hR
  unfold rdOp at hRR
  rw [if_neg h10] at hRR
  obtain ⟨c1, hc1⟩ : ∃ c1, readU (b.take 4) = c1 := ⟨_, rfl⟩
  obtain ⟨s1, hs1⟩ : ∃ s1, readU ((b.drop 4).take 4) = s1 := ⟨_, rfl⟩
  obtain ⟨n1, hn1⟩ : ∃ n1, readU ((b.drop 8).take 2) = n1 := ⟨_, rfl⟩
  have hid := cid_ok h hr hB hc hl (by omega) c1 s1 n1 hc1 hs1 hn1
  have hrx := fun (w1 : World) (hu : Upd (fun x => x = r ∨ x = ob) w w1) => hr.upd hu (fun k hk e => by omega) (by have := hob.lt; omega)
  obtain ⟨⟨g, gn, ge⟩, hg⟩ : ∃ x, readT (b.drop 10) 32 = x := ⟨_, rfl⟩
  rw [hg, hc1, hs1, hn1] at hRR
  dsimp only at hRR
  have hn1o : ge = 0 → ∀ w1, CAt w1 r (some ad) b.length c 10 → Upd (fun x => x = r ∨ x = ob) w w1 → Calls Try.prog 58 #[.pointer (some ⟨r, 0, none⟩)] w1 (fun e w' => e = .returned (.string (bstr g)) ∧ CAt w' r (some ad) b.length c (10 + gn) ∧ Upd (fun x => x = r) w1 w') := fun h0 w1 h1 hu => name_ok h1 (hrx w1 hu) hB hc hl (by omega) g gn (by rw [hg, h0])
  have hn1n : ge ≠ 0 → ∀ w1, CAt w1 r (some ad) b.length c 10 → Upd (fun x => x = r ∨ x = ob) w w1 → Calls Try.prog 58 #[.pointer (some ⟨r, 0, none⟩)] w1 (fun e w' => e = .panicked shortC ∧ Below w1.heap.size w1 w') := fun h0 w1 h1 hu => name_no h1 (hrx w1 hu) (fun e => by cases e) hB hc hl (by omega) (by rw [hg]; exact h0)
  have hg10 : ge = 0 → 10 + gn ≤ b.length := fun h0 => by
    have h2 : (readT (b.drop 10) 32).2.1 ≤ (b.drop 10).length := readT_le _ _ (by rw [hg]; exact h0)
    rw [hg, List.length_drop] at h2
    have h3 : gn ≤ b.length - 10 := h2
    omega
  obtain ⟨⟨m, mn, me⟩, hm⟩ : ∃ x, readT (b.drop (10 + gn)) 32 = x := ⟨_, rfl⟩
  rw [hm] at hRR
  dsimp only at hRR
  have hn2o : ge = 0 → me = 0 → ∀ w1, CAt w1 r (some ad) b.length c (10 + gn) → Upd (fun x => x = r ∨ x = ob) w w1 → Calls Try.prog 58 #[.pointer (some ⟨r, 0, none⟩)] w1 (fun e w' => e = .returned (.string (bstr m)) ∧ CAt w' r (some ad) b.length c (10 + gn + mn) ∧ Upd (fun x => x = r) w1 w') := fun hg0 h0 w1 h1 hu => name_ok h1 (hrx w1 hu) hB hc hl (hg10 hg0) m mn (by rw [hm, h0])
  have hn2n : ge = 0 → me ≠ 0 → ∀ w1, CAt w1 r (some ad) b.length c (10 + gn) → Upd (fun x => x = r ∨ x = ob) w w1 → Calls Try.prog 58 #[.pointer (some ⟨r, 0, none⟩)] w1 (fun e w' => e = .panicked shortC ∧ Below w1.heap.size w1 w') := fun hg0 h0 w1 h1 hu => name_no h1 (hrx w1 hu) (fun e => by cases e) hB hc hl (hg10 hg0) (by rw [hm]; exact h0)
  have hm10 : ge = 0 → me = 0 → 10 + gn + mn ≤ b.length := fun hg0 h0 => by
    have h2 : (readT (b.drop (10 + gn)) 32).2.1 ≤ (b.drop (10 + gn)).length := readT_le _ _ (by rw [hm]; exact h0)
    rw [hm, List.length_drop] at h2
    have h3 : mn ≤ b.length - (10 + gn) := h2
    have := hg10 hg0
    omega
  obtain ⟨at2, hat2⟩ : ∃ at2, 10 + gn + mn = at2 := ⟨_, rfl⟩
  rw [hat2] at hRR hn2o hm10
  obtain ⟨kk, hkk⟩ : ∃ kk, readU ((b.drop at2).take 1) = kk := ⟨_, rfl⟩
  rw [hkk] at hRR
  have hk256 : kk < 256 := by
    rw [← hkk]
    refine Nat.lt_of_lt_of_le (readU_lt _) ?_
    rw [List.length_take]
    exact Nat.pow_le_pow_right (show 0 < 256 by decide) (show min 1 (b.drop at2).length ≤ 1 by omega)
  have hnuo : ge = 0 → me = 0 → at2 + 1 ≤ b.length → ∀ w1, CAt w1 r (some ad) b.length c at2 → Upd (fun x => x = r ∨ x = ob) w w1 → Calls Try.prog 59 #[.pointer (some ⟨r, 0, none⟩), .int .i64 ((1 : Nat) : Int)] w1 (CNumRes w1 r ad b.length c (at2 + 1) kk) := fun _ _ h0 w1 h1 hu => cnumber_ok h1 (hrx w1 hu) hB hc hl (by omega) (by omega) h0 kk hkk
  have hnun : ge = 0 → me = 0 → b.length < at2 + 1 → ∀ w1, CAt w1 r (some ad) b.length c at2 → Calls Try.prog 59 #[.pointer (some ⟨r, 0, none⟩), .int .i64 ((1 : Nat) : Int)] w1 (fun e w' => e = .panicked shortC ∧ Below w1.heap.size w1 w') := fun hg0 hm0 h0 w1 h1 => cnumber_no h1 (fun e => by cases e) hc hl (by omega) (hm10 hg0 hm0) h0
  have hvo := fun (at_ : Nat) (v : Val) (q : Nat) (hrd : rdV (b.drop at_) = some (v, q)) (hat : at_ ≤ b.length) w1 (h1 : CAt w1 r (some ad) b.length c at_) (hu : Upd (fun x => x = r ∨ x = ob) w w1) => cvalue_ok h1 (hrx w1 hu) hB hc hl hat v q hrd
  have hvn := fun (at_ : Nat) (hrd : rdV (b.drop at_) = none) (hat : at_ ≤ b.length) w1 (h1 : CAt w1 r (some ad) b.length c at_) (hu : Upd (fun x => x = r ∨ x = ob) w w1) => cvalue_no h1 (hrx w1 hu) (fun e => by cases e) hB hc hl hat hrd
  obtain ⟨bl, hbl⟩ : ∃ bl, b.length = bl := ⟨_, rfl⟩
  obtain ⟨gg, hgg⟩ : ∃ gg, bstr g = gg := ⟨_, rfl⟩
  obtain ⟨mm, hmm⟩ : ∃ mm, bstr m = mm := ⟨_, rfl⟩
  rw [hbl] at hid hn1o hn1n hn2o hn2n hnuo hnun hvo hvn hRR hm10 ⊢
  rw [hgg] at hn1o
  rw [hmm] at hn2o
  have hol := hob.lt
  have hpl := hpb.lt
  have hrl := Blk.lt h
  clear h hr hc hl hR hc1 hs1 hn1 hrx hg hm hg10 hat2 hkk hA
  replace hid := Lib.hid hid
  replace hn1o := Lib.hid hn1o
  replace hn1n := Lib.hid hn1n
  replace hn2o := Lib.hid hn2o
  replace hn2n := Lib.hid hn2n
  replace hnuo := Lib.hid hnuo
  replace hnun := Lib.hid hnun
  replace hvo := Lib.hid hvo
  replace hvn := Lib.hid hvn
  replace hRR := Lib.hid hRR
  replace hm10 := Lib.hid hm10
  replace hgg := Lib.hid hgg
  replace hmm := Lib.hid hmm
  replace h10 := Lib.hid h10
  replace hbl := Lib.hid hbl
  go_enter Try.func56, Try.ntmps56
  go_wp2_with fail
  refine hid.out.mono ?_
  rintro e w2 ⟨rfl, hR2, hu2⟩
  dsimp only
  have hu2' : Upd (fun x => x = r ∨ x = ob) w w2 := hu2.mono (fun _ _ h => .inl h)
  have hp2 := hpb.upd hu2 (fun e => hpr e)
  have ho2 := hob.upd hu2 (fun e => hor e)
  have z0 := ho2.cell 0
  have z1 := ho2.cell 1
  have z2 := ho2.cell 2
  have f0 := ho2.frozen 0
  have f1 := ho2.frozen 1
  have f2 := ho2.frozen 2
  have hR3 : CAt (((w2.setCell ⟨ob, 0, none⟩ (.int .u32 (c1 : Int))).setCell ⟨ob, 1, none⟩ (.int .u32 (s1 : Int))).setCell ⟨ob, 2, none⟩ (.int .u16 (n1 : Int))) r (some ad) bl c 10 := ((((show Blk w2 r _ _ from hR2).far (p := ⟨ob, 0, none⟩) (show r ≠ ob from fun e => hor e.symm) (.int .u32 (c1 : Int))).far (p := ⟨ob, 1, none⟩) (show r ≠ ob from fun e => hor e.symm) (.int .u32 (s1 : Int))).far (p := ⟨ob, 2, none⟩) (show r ≠ ob from fun e => hor e.symm) (.int .u16 (n1 : Int)))
  have hp3 : Blk (((w2.setCell ⟨ob, 0, none⟩ (.int .u32 (c1 : Int))).setCell ⟨ob, 1, none⟩ (.int .u32 (s1 : Int))).setCell ⟨ob, 2, none⟩ (.int .u16 (n1 : Int))) pb 109 #[.pointer (some ⟨r, 0, none⟩)] := (((hp2.far (p := ⟨ob, 0, none⟩) (show pb ≠ ob from hpo) (.int .u32 (c1 : Int))).far (p := ⟨ob, 1, none⟩) (show pb ≠ ob from hpo) (.int .u32 (s1 : Int))).far (p := ⟨ob, 2, none⟩) (show pb ≠ ob from hpo) (.int .u16 (n1 : Int)))
  have ho3 : Blk (((w2.setCell ⟨ob, 0, none⟩ (.int .u32 (c1 : Int))).setCell ⟨ob, 1, none⟩ (.int .u32 (s1 : Int))).setCell ⟨ob, 2, none⟩ (.int .u16 (n1 : Int))) ob 38 #[.int .u32 (c1 : Int), .int .u32 (s1 : Int), .int .u16 (n1 : Int), .string ⟨#[]⟩, .string ⟨#[]⟩, .slice none 0 0] := (((ho2.set_ 0 (.int .u32 (c1 : Int))).set_ 1 (.int .u32 (s1 : Int))).set_ 2 (.int .u16 (n1 : Int)))
  have hu3 : Upd (fun x => x = r ∨ x = ob) w (((w2.setCell ⟨ob, 0, none⟩ (.int .u32 (c1 : Int))).setCell ⟨ob, 1, none⟩ (.int .u32 (s1 : Int))).setCell ⟨ob, 2, none⟩ (.int .u16 (n1 : Int))) := (((hu2'.setCell (p := ⟨ob, 0, none⟩) (fun _ => .inr rfl) (.int .u32 (c1 : Int))).setCell (p := ⟨ob, 1, none⟩) (fun _ => .inr rfl) (.int .u32 (s1 : Int))).setCell (p := ⟨ob, 2, none⟩) (fun _ => .inr rfl) (.int .u16 (n1 : Int)))
  have p3 := hp3.cell 0
  clear hR2 hp2 ho2 hu2 hu2' p0
  go_wp2_with fail
  generalize (((w2.setCell ⟨ob, 0, none⟩ (.int .u32 (c1 : Int))).setCell ⟨ob, 1, none⟩ (.int .u32 (s1 : Int))).setCell ⟨ob, 2, none⟩ (.int .u16 (n1 : Int))) = w3 at *
  clear z0 z1 z2 f0 f1 f2 p3 hid
  by_cases hge : ge = 0
  case neg =>
    have hRn : R = none := by rw [← hRR.out, if_pos hge]
    subst hRn
    refine (hn1n.out hge w3 hR3 hu3).mono ?_
    rintro e w4 ⟨rfl, hb4⟩
    dsimp only
    have hu4 := hu3.trans (Upd.of_below_size (S := fun x => x = r ∨ x = ob) hb4) (fun _ _ h => h)
    go_wp2_with fail
    exact ⟨rfl, rfl, hu4⟩
  have hRR2 := hRR.out
  rw [if_neg (by simpa using hge)] at hRR2
  replace hRR2 := Lib.hid hRR2
  refine (hn1o.out hge w3 hR3 hu3).mono ?_
  rintro e w4 ⟨rfl, hR4, hu4⟩
  dsimp only
  have hp4 := hp3.upd hu4 (fun e => hpr e)
  have ho4 := ho3.upd hu4 (fun e => hor e)
  have hu4' := hu3.trans hu4 (fun _ _ h => .inl h)
  have z3 := ho4.cell 3
  have f3 := ho4.frozen 3
  have hR5 : CAt (w4.setCell ⟨ob, 3, none⟩ (.string gg)) r (some ad) bl c (10 + gn) := ((show Blk w4 r _ _ from hR4).far (p := ⟨ob, 3, none⟩) (show r ≠ ob from fun e => hor e.symm) (.string gg))
  have hp5 := (hp4.far (p := ⟨ob, 3, none⟩) (show pb ≠ ob from hpo) (.string gg))
  have ho5 := (ho4.set_ 3 (.string gg))
  have hu5 := (hu4'.setCell (p := ⟨ob, 3, none⟩) (fun _ => .inr rfl) (.string gg))
  have p5 := hp5.cell 0
  clear hR4 hp4 ho4 hu4 hu4' hR3 hp3 ho3 hu3
  go_wp2_with fail
  generalize w4.setCell ⟨ob, 3, none⟩ (.string gg) = w5 at *
  clear z3 f3 p5 hn1o hn1n
  by_cases hme : me = 0
  case neg =>
    have hRn : R = none := by rw [← hRR2.out, if_pos hme]
    subst hRn
    refine (hn2n.out hge hme w5 hR5 hu5).mono ?_
    rintro e w6 ⟨rfl, hb6⟩
    dsimp only
    have hu6 := hu5.trans (Upd.of_below_size (S := fun x => x = r ∨ x = ob) hb6) (fun _ _ h => h)
    go_wp2_with fail
    exact ⟨rfl, rfl, hu6⟩
  have hRR3 := hRR2.out
  rw [if_neg (by simpa using hme)] at hRR3
  replace hRR3 := Lib.hid hRR3
  refine (hn2o.out hge hme w5 hR5 hu5).mono ?_
  rintro e w6 ⟨rfl, hR6, hu6⟩
  dsimp only
  have hp6 := hp5.upd hu6 (fun e => hpr e)
  have ho6 := ho5.upd hu6 (fun e => hor e)
  have hu6' := hu5.trans hu6 (fun _ _ h => .inl h)
  have z4 := ho6.cell 4
  have f4 := ho6.frozen 4
  have hR7 : CAt (w6.setCell ⟨ob, 4, none⟩ (.string mm)) r (some ad) bl c at2 := ((show Blk w6 r _ _ from hR6).far (p := ⟨ob, 4, none⟩) (show r ≠ ob from fun e => hor e.symm) (.string mm))
  have hp7 := (hp6.far (p := ⟨ob, 4, none⟩) (show pb ≠ ob from hpo) (.string mm))
  have ho7 : Blk (w6.setCell ⟨ob, 4, none⟩ (.string mm)) ob 38 #[.int .u32 (c1 : Int), .int .u32 (s1 : Int), .int .u16 (n1 : Int), .string gg, .string mm, .slice none 0 0] := (ho6.set_ 4 (.string mm))
  have hu7 := (hu6'.setCell (p := ⟨ob, 4, none⟩) (fun _ => .inr rfl) (.string mm))
  have p7 := hp7.cell 0
  clear hR6 hp6 ho6 hu6 hu6' hR5 hp5 ho5 hu5
  go_wp2_with fail
  generalize w6.setCell ⟨ob, 4, none⟩ (.string mm) = w7 at *
  clear z4 f4 p7 hn2o hn2n hRR hRR2
  by_cases hnu : bl < at2 + 1
  · have hRn : R = none := by rw [← hRR3.out, if_pos hnu]
    subst hRn
    refine (hnun.out hge hme hnu w7 hR7).mono ?_
    rintro e w8 ⟨rfl, hb8⟩
    dsimp only
    have hu8 := hu7.trans (Upd.of_below_size (S := fun x => x = r ∨ x = ob) hb8) (fun _ _ h => h)
    go_wp2_with fail
    exact ⟨rfl, rfl, hu8⟩
  have hRR4 := hRR3.out
  rw [if_neg hnu] at hRR4
  refine (hnuo.out hge hme (by omega) w7 hR7 hu7).mono ?_
  rintro e w8 ⟨rfl, hR8, hu8⟩
  dsimp only
  have hp8 := hp7.upd hu8 (fun e => hpr e)
  have ho8 := ho7.upd hu8 (fun e => hor e)
  have hu8' := hu7.trans hu8 (fun _ _ h => .inl h)
  clear hR7 hp7 ho7 hu7 hu8 hnuo hnun hRR3
  by_cases hk16 : 16 < kk
  · have hRn : R = none := by rw [← hRR4, if_pos hk16]
    subst hRn
    have hd : decide ((kk : Int) ≤ 16) = false := decide_eq_false (by omega)
    clear hRR4
    go_wp2_with fail
    refine (cmust_no _).mono ?_
    rintro e w9 ⟨rfl, rfl⟩
    dsimp only
    go_wp2_with fail
    exact ⟨rfl, rfl, hu8'⟩
  rw [if_neg hk16] at hRR4
  replace hRR4 := Lib.hid hRR4
  have hd : decide ((kk : Int) ≤ 16) = true := decide_eq_true (by omega)
  go_wp2_with fail
  refine (cmust_ok _).mono ?_
  rintro e w9 ⟨rfl, rfl⟩
  dsimp only
  clear hd
  go_wp2_with fail
  have hnil := VRow.nil w8 w.heap.size
  have hf0 : fin c1 s1 n1 g m [] (at2 + 1) (pl rdV (kk - 0) (b.drop (at2 + 1))) = R := by
    rw [← hRR4.out, Nat.sub_zero]
    cases pl rdV kk (b.drop (at2 + 1)) with
    | none => rfl
    | some x => rfl
  replace hf0 := Lib.hid hf0
  have h0l : at2 + 1 ≤ bl := by omega
  clear hRR4 hm10
  go_loopw [18] (fun ii wr => ∃ (j at_ : Nat) (vs : List Val) (A1 : Option Addr) (cc : Nat) (xs1 : List Value) (css1 : Nat → Array Value), ii = .int .u64 (j : Int) ∧ ArgRel w wr r pb ob ad b bl c c1 s1 n1 g m gg mm kk R j at_ vs A1 cc xs1 css1) (fun ii _ => kk - (intOf ii).toNat)
  case atStart => exact ⟨0, at2 + 1, [], none, 0, [], _, rfl, Nat.zero_le _, rfl, h0l, hR8, hp8, ho8, hnil, hu8', hf0⟩
  case round =>
    obtain ⟨j, at_, vs, A1, cc, xs1, css1, rfl, Q⟩ := hrel
    by_cases hlt : j < kk
    · have hd : decide ((j : Int) < (kk : Int)) = true := decide_eq_true (by omega)
      cases hrd : rdV (b.drop at_) with
      | none =>
        have hRn : R = none := by
          rw [← Q.hf.out, pl_none (by omega) hrd]; rfl
        subst hRn
        have hcall := fun (w4 : World) (h1 : CAt w4 r (some ad) bl c at_) (h2 : Upd (fun x => x = r ∨ x = ob) w w4) => hvn.out at_ hrd Q.al w4 h1 h2
        replace hcall := Lib.hid hcall
        have hS : wr.drew.cell? ⟨ob, 5, none⟩ = some (.slice A1 j cc) ∧ wr.drew.cell? ⟨pb, 0, none⟩ = some (.pointer (some ⟨r, 0, none⟩)) := ⟨Q.ho.cell 5, Q.hp.cell 0⟩
        have hwl := Q.hu.size
        have hvl := Q.vl
        go_wp2_with fail
        clear hd
        refine wp_region_plan (fun W => W.cell? ⟨ob, 5, none⟩ = some (.slice A1 j cc) ∧ W.cell? ⟨pb, 0, none⟩ = some (.pointer (some ⟨r, 0, none⟩))) [1, 2] [3, 5, 6, 8, 10] (.one 0 (.one 1 (.one 2 (.one 4 (.two 3 (.one 5 (.one 6 (.one 7 (.one 9 (.two 8 (.one 10 .nil) 10 (.one 8 .nil)))))) 5 (.one 3 (.one 6 (.one 7 (.one 9 (.two 8 (.one 10 .nil) 10 (.one 8 .nil))))))))))) (by kernel_rfl) rfl rfl (by kernel_rfl) (by kernel_rfl) (fun _ _ d _ _ h => by cases d <;> exact h) ?_
        repeat (first | (refine planG_take _ ?_ rfl rfl rfl rfl (fun _ => ?_) ?_; rotate_left; (focus (go_simp; with_reducible rfl)); try simp only [Act.put, List.setIfInBounds_toArray, List.set_cons_zero, List.set_cons_succ]) | (refine planG_held _ ?_ rfl rfl rfl rfl (by assumption) (fun _ hSw => ?_) ?_; rotate_left; (focus ((try dsimp only at hSw); go_simp; with_reducible rfl)); try simp only [Act.put, List.setIfInBounds_toArray, List.set_cons_zero, List.set_cons_succ]) | (refine planG_skip _ rfl rfl (by assumption) ?_; try simp only [Act.put, List.setIfInBounds_toArray, List.set_cons_zero, List.set_cons_succ]))
        refine planG_two rfl rfl ?_ ?_
        · refine planG_now _ rfl rfl rfl (fun K hK => ?_)
          go_wp2_with fail
          refine (hcall.out wr.drew Q.hR.drew Q.hu.drew).mono ?_
          rintro e w5 ⟨rfl, hb5⟩
          dsimp only
          have hu5 := Q.hu.drew.trans (Upd.of_below_size (S := fun x => x = r ∨ x = ob) hb5) (fun _ _ h => h)
          go_wp2_with fail
          exact ⟨rfl, rfl, hu5⟩
        · refine planG_now _ rfl rfl rfl (fun K hK => ?_)
          go_wp2_with fail
          have hob5 := (Q.ho.alloc (.cells #[.int .i64 0, .int .i64 0, .float .f64 0, .string ⟨#[]⟩, .slice none 0 0] 64)).drew
          have hpb5 := (Q.hp.alloc (.cells #[.int .i64 0, .int .i64 0, .float .f64 0, .string ⟨#[]⟩, .slice none 0 0] 64)).drew
          have hR5 : CAt (wr.alloc (.cells #[.int .i64 0, .int .i64 0, .float .f64 0, .string ⟨#[]⟩, .slice none 0 0] 64)).drew r (some ad) bl c at_ := Blk.drew (Blk.alloc Q.hR (.cells #[.int .i64 0, .int .i64 0, .float .f64 0, .string ⟨#[]⟩, .slice none 0 0] 64))
          have hu5 := (Q.hu.alloc (.cells #[.int .i64 0, .int .i64 0, .float .f64 0, .string ⟨#[]⟩, .slice none 0 0] 64)).drew
          refine hK _ _ _ (fun _ h => h) ⟨hob5.cell 5, hpb5.cell 0⟩ ?_
          clear hK K hS
          generalize (wr.alloc (.cells #[.int .i64 0, .int .i64 0, .float .f64 0, .string ⟨#[]⟩, .slice none 0 0] 64)).drew = w4 at *
          try simp only [Act.put, List.setIfInBounds_toArray, List.set_cons_zero, List.set_cons_succ]
          repeat (first | (refine planG_take _ ?_ rfl rfl rfl rfl (fun _ => ?_) ?_; rotate_left; (focus (go_simp; with_reducible rfl)); try simp only [Act.put, List.setIfInBounds_toArray, List.set_cons_zero, List.set_cons_succ]) | (refine planG_held _ ?_ rfl rfl rfl rfl (by assumption) (fun _ hSw => ?_) ?_; rotate_left; (focus ((try dsimp only at hSw); go_simp; with_reducible rfl)); try simp only [Act.put, List.setIfInBounds_toArray, List.set_cons_zero, List.set_cons_succ]) | (refine planG_skip _ rfl rfl (by assumption) ?_; try simp only [Act.put, List.setIfInBounds_toArray, List.set_cons_zero, List.set_cons_succ]))
          refine planG_now _ rfl rfl rfl (fun K hK => ?_)
          go_wp2_with fail
          refine (hcall.out w4 hR5 hu5).mono ?_
          rintro e w5 ⟨rfl, hb5⟩
          dsimp only
          have hu6 := hu5.trans (Upd.of_below_size (S := fun x => x = r ∨ x = ob) hb5) (fun _ _ h => h)
          go_wp2_with fail
          exact ⟨rfl, rfl, hu6⟩
      | some x =>
        obtain ⟨v, q⟩ := x
        have hfn : fin c1 s1 n1 g m (vs ++ [v]) (at_ + q) (pl rdV (kk - (j + 1)) (b.drop (at_ + q))) = R := by
          rw [← Q.hf.out, fin_step _ _ _ _ _ _ _ _ _ _ _ (by omega) hrd, Nat.sub_sub]
        have hatq : at_ + q ≤ bl := by
          have h1 := rdV_le hrd
          rw [List.length_drop, hbl.out] at h1
          have := Q.al
          omega
        replace hfn := Lib.hid hfn
        have hj16 : j < 16 := by omega
        have hvl := Q.vl
        have hwl := Q.hu.size
        have hS : wr.drew.cell? ⟨ob, 5, none⟩ = some (.slice A1 j cc) ∧ wr.drew.cell? ⟨pb, 0, none⟩ = some (.pointer (some ⟨r, 0, none⟩)) := ⟨Q.ho.cell 5, Q.hp.cell 0⟩
        have hcall := fun (w4 : World) (h1 : CAt w4 r (some ad) bl c at_) (h2 : Upd (fun x => x = r ∨ x = ob) w w4) => hvo.out at_ v q hrd Q.al w4 h1 h2
        replace hcall := Lib.hid hcall
        replace hrd := Lib.hid hrd
        go_wp2_with fail
        clear hd
        refine wp_region_plan (fun W => W.cell? ⟨ob, 5, none⟩ = some (.slice A1 j cc) ∧ W.cell? ⟨pb, 0, none⟩ = some (.pointer (some ⟨r, 0, none⟩))) [1, 2] [3, 5, 6, 8, 10] (.one 0 (.one 1 (.one 2 (.one 4 (.two 3 (.one 5 (.one 6 (.one 7 (.one 9 (.two 8 (.one 10 .nil) 10 (.one 8 .nil)))))) 5 (.one 3 (.one 6 (.one 7 (.one 9 (.two 8 (.one 10 .nil) 10 (.one 8 .nil))))))))))) (by kernel_rfl) rfl rfl (by kernel_rfl) (by kernel_rfl) (fun _ _ d _ _ h => by cases d <;> exact h) ?_
        repeat (first | (refine planG_take _ ?_ rfl rfl rfl rfl (fun _ => ?_) ?_; rotate_left; (focus (go_simp; with_reducible rfl)); try simp only [Act.put, List.setIfInBounds_toArray, List.set_cons_zero, List.set_cons_succ]) | (refine planG_held _ ?_ rfl rfl rfl rfl (by assumption) (fun _ hSw => ?_) ?_; rotate_left; (focus ((try dsimp only at hSw); go_simp; with_reducible rfl)); try simp only [Act.put, List.setIfInBounds_toArray, List.set_cons_zero, List.set_cons_succ]) | (refine planG_skip _ rfl rfl (by assumption) ?_; try simp only [Act.put, List.setIfInBounds_toArray, List.set_cons_zero, List.set_cons_succ]))
        refine planG_two rfl rfl ?_ ?_
        · refine planG_now _ rfl rfl rfl (fun K hK => ?_)
          go_wp2_with fail
          refine (hcall.out wr.drew Q.hR.drew Q.hu.drew).mono ?_
          rintro e w5 ⟨cs, rfl, hv5, hR5, hu5⟩
          dsimp only
          have hcs5 := hv5.size
          have hone' := hv5.one
          obtain ⟨a0, a1, a2, a3, a4, rfl⟩ : ∃ a0 a1 a2 a3 a4, cs = #[a0, a1, a2, a3, a4] := by
            match cs, hcs5 with
            | ⟨[a0, a1, a2, a3, a4]⟩, _ => exact ⟨a0, a1, a2, a3, a4, rfl⟩
          have hone := hone'
          have hu5' : Upd (fun x => x = r) wr w5 := upd_of_drew hu5
          have ho5 := Q.ho.upd hu5' (fun e => hor e)
          have hp5 := Q.hp.upd hu5' (fun e => hpr e)
          have hv6' : VOwn w5 (fun g => wr.heap.size ≤ g ∧ g < w5.heap.size) v #[a0, a1, a2, a3, a4] := hv5.mono (fun g hg h => ⟨h, hg⟩)
          have own5 := Q.row.ho.upd hu5' (fun g hg e => by have := Q.row.hA g hg; omega)
          rw [hvl] at own5
          refine hK _ _ _ (fun _ h => h) ⟨ho5.cell 5, hp5.cell 0⟩ ?_
          clear hK K hS
          try simp only [Act.put, List.setIfInBounds_toArray, List.set_cons_zero, List.set_cons_succ]
          repeat (first | (refine planG_take _ ?_ rfl rfl rfl rfl (fun _ => ?_) ?_; rotate_left; (focus (go_simp; with_reducible rfl)); try simp only [Act.put, List.setIfInBounds_toArray, List.set_cons_zero, List.set_cons_succ]) | (refine planG_held _ ?_ rfl rfl rfl rfl (by assumption) (fun _ hSw => ?_) ?_; rotate_left; (focus ((try dsimp only at hSw); go_simp; with_reducible rfl)); try simp only [Act.put, List.setIfInBounds_toArray, List.set_cons_zero, List.set_cons_succ]) | (refine planG_skip _ rfl rfl (by assumption) ?_; try simp only [Act.put, List.setIfInBounds_toArray, List.set_cons_zero, List.set_cons_succ]))
          refine planG_now _ rfl rfl rfl (fun K hK => ?_)
          go_wp2_with fail
          have ho6 := ho5.alloc (.cells #[.int .i64 0, .int .i64 0, .float .f64 0, .string ⟨#[]⟩, .slice none 0 0] 64)
          have hp6 := hp5.alloc (.cells #[.int .i64 0, .int .i64 0, .float .f64 0, .string ⟨#[]⟩, .slice none 0 0] 64)
          have hR6 : CAt (w5.alloc (.cells #[.int .i64 0, .int .i64 0, .float .f64 0, .string ⟨#[]⟩, .slice none 0 0] 64)) r (some ad) bl c (at_ + q) := Blk.alloc hR5 (.cells #[.int .i64 0, .int .i64 0, .float .f64 0, .string ⟨#[]⟩, .slice none 0 0] 64)
          have own6 := own5.alloc (.cells #[.int .i64 0, .int .i64 0, .float .f64 0, .string ⟨#[]⟩, .slice none 0 0] 64)
          have hsrc := lit_reads (Blk.new w5 64 #[.int .i64 0, .int .i64 0, .float .f64 0, .string ⟨#[]⟩, .slice none 0 0])
          have hv6 := hv6'.upd ((Upd.refl (fun _ => False) w5).alloc (.cells #[.int .i64 0, .int .i64 0, .float .f64 0, .string ⟨#[]⟩, .slice none 0 0] 64)) (fun _ _ h => h)
          have hu0 := hu5'.alloc (.cells #[.int .i64 0, .int .i64 0, .float .f64 0, .string ⟨#[]⟩, .slice none 0 0] 64)
          have hs6 : (w5.alloc (.cells #[.int .i64 0, .int .i64 0, .float .f64 0, .string ⟨#[]⟩, .slice none 0 0] 64)).heap.size = w5.heap.size + 1 := by simp
          have hu6 := Q.hu.trans (hu0.mono (T := fun x => x = r ∨ x = ob) (fun _ _ h => .inl h)) (fun _ _ h => h)
          refine hK _ _ _ (fun _ h => h) ⟨ho6.cell 5, hp6.cell 0⟩ ?_
          clear hK K hu5 hv5 hone' hcs5 ho5 hp5 own5 hv6' hR5
          try simp only [Act.put, List.setIfInBounds_toArray, List.set_cons_zero, List.set_cons_succ]
          repeat (first | (refine planG_take _ ?_ rfl rfl rfl rfl (fun _ => ?_) ?_; rotate_left; (focus (go_simp; with_reducible rfl)); try simp only [Act.put, List.setIfInBounds_toArray, List.set_cons_zero, List.set_cons_succ]) | (refine planG_held _ ?_ rfl rfl rfl rfl (by assumption) (fun _ hSw => ?_) ?_; rotate_left; (focus ((try dsimp only at hSw); go_simp; with_reducible rfl)); try simp only [Act.put, List.setIfInBounds_toArray, List.set_cons_zero, List.set_cons_succ]) | (refine planG_skip _ rfl rfl (by assumption) ?_; try simp only [Act.put, List.setIfInBounds_toArray, List.set_cons_zero, List.set_cons_succ]))
          generalize w5.alloc (.cells #[.int .i64 0, .int .i64 0, .float .f64 0, .string ⟨#[]⟩, .slice none 0 0] 64) = w6 at *
          refine planG_now _ rfl rfl rfl (fun K hK => ?_)
          refine wp_append_mine _ _ 36 36 rfl 64 i1 _ 5 64 Try.underlying36 gi gz0 gz1 gz2 rfl rfl own6 rfl (Src.ofReads Try.underlying36 _ hsrc (by intro u hu; simp at hu; rcases hu with rfl | rfl | rfl | rfl | rfl <;> rfl)) (by unfold maxLen; omega) (by omega) (fun A8 c8 w8 ho8 hg8 hat8 => ?_)
          have hA1 : ∀ g, bOf A1 = some g → w.heap.size ≤ g := Q.row.hA
          have hA8 : ∀ g, bOf A8 = some g → w.heap.size ≤ g := fun g hg => by
            rcases hat8 with h | h
            · rw [h] at hg; exact hA1 g hg
            · rw [h] at hg; cases hg; exact hu6.size
          obtain ⟨g8, rfl⟩ : ∃ g8, A8 = some ⟨g8, 0, none⟩ := by
            rcases ho8.2 with ⟨h1, _⟩ | ⟨g8, _, h1, _⟩
            · omega
            · exact ⟨g8, h1⟩
          have hg8w := hA8 g8 rfl
          obtain ⟨hel, hth⟩ := own_last (news := [a0, a1, a2, a3, a4]) ho8 (by rw [Q.row.ho.1, hvl]) rfl rfl
          have ho8b := ho6.grown hg8 (fun e => by have := hA1 _ e.symm; omega)
          have hp8b := hp6.grown hg8 (fun e => by have := hA1 _ e.symm; omega)
          have hR8b : CAt w8 r (some ad) bl c (at_ + q) := Blk.grown hR6 hg8 (fun e => by have := hA1 _ e.symm; omega)
          have hv8 := hv6.upd ((Upd.refl (fun x => some x = bOf A1) w6).grown hg8 (fun k hk _ => hk.symm)) (fun g hg e => by have := Q.row.ho.lt e.symm; omega)
          have hne8 : ∀ g, wr.heap.size ≤ g ∧ g < w5.heap.size → g ≠ g8 := fun g hg e => by
            subst e
            rcases hat8 with h | h
            · exact absurd (show g < wr.heap.size from Q.row.ho.lt h.symm) (by omega)
            · have h9 : (some g : Option Nat) = some w6.heap.size := h
              cases h9; omega
          refine hK _ _ _ (fun _ h => h) ⟨ho8b.cell 5, hp8b.cell 0⟩ ?_
          clear hK K own6 hsrc ho6 hp6 hR6 hv6 hu6
          try simp only [Act.put, List.setIfInBounds_toArray, List.set_cons_zero, List.set_cons_succ]
          have hjj : (j : Int) < (j : Int) + 1 := by omega
          repeat (first | (refine planG_take _ ?_ rfl rfl rfl rfl (fun _ => ?_) ?_; rotate_left; (focus (go_simp; with_reducible rfl)); try simp only [Act.put, List.setIfInBounds_toArray, List.set_cons_zero, List.set_cons_succ]) | (refine planG_held _ ?_ rfl rfl rfl rfl (by assumption) (fun _ hSw => ?_) ?_; rotate_left; (focus ((try dsimp only at hSw); go_simp; with_reducible rfl)); try simp only [Act.put, List.setIfInBounds_toArray, List.set_cons_zero, List.set_cons_succ]) | (refine planG_skip _ rfl rfl (by assumption) ?_; try simp only [Act.put, List.setIfInBounds_toArray, List.set_cons_zero, List.set_cons_succ]))
          clear hjj
          refine planG_two rfl rfl ?_ ?_
          · refine planG_nowF _ rfl rfl rfl (by kernel_rfl) (fun K hK => ?_)
            refine wp_store_mid 64 (Operand.tmp 27) (Operand.tmp 23) rfl g8 (j * 5) #[a0, a1, a2, a3, a4] (by simp [go_sem, add_row]) (by simp [go_sem]) hth (by kernel_rfl) (by simpa using hone) ?_
            refine hK _ _ ?_
            clear hK K
            have hu9 : Upd (fun x => x = g8) w8 (w8.setCells g8 (j * 5) [a0, a1, a2, a3, a4]) := by
              obtain ⟨s1, s2, s3, s4⟩ := setCells_same g8 (j * 5) [a0, a1, a2, a3, a4] w8
              exact ⟨s1, s2, s3, by omega, fun k _ hk => setCells_other g8 _ k hk _ w8⟩
            have ho9 := ho8b.upd hu9 (fun e => by omega)
            have hp9 := hp8b.upd hu9 (fun e => by omega)
            have hR9 : CAt (w8.setCells g8 (j * 5) [a0, a1, a2, a3, a4]) r (some ad) bl c (at_ + q) := Blk.upd hR8b hu9 (fun e => by omega)
            have hv9 := hv8.upd hu9 (fun g hg e => hne8 g hg e)
            generalize w8.setCells g8 (j * 5) [a0, a1, a2, a3, a4] = w9 at *
            try simp only [Act.put, List.setIfInBounds_toArray, List.set_cons_zero, List.set_cons_succ]
            refine planG_nowF _ rfl rfl rfl (by kernel_rfl) (fun K hK => ?_)
            have y5 := ho9.cell 5
            have yf := ho9.frozen 5
            go_simp
            refine hK _ _ ?_
            clear hK K
            refine planG_nil ?_
            have hu9b := (Upd.refl (fun x => x = ob) w9).setCell (p := ⟨ob, 5, none⟩) (fun _ => rfl) (.slice (some ⟨g8, 0, none⟩) (j + 1) c8)
            have hu10 : Upd (fun x => x = g8 ∨ x = ob) w8 (w9.setCell ⟨ob, 5, none⟩ (.slice (some ⟨g8, 0, none⟩) (j + 1) c8)) := (hu9.mono (T := fun x => x = g8 ∨ x = ob) (fun _ _ h => .inl h)).trans hu9b (fun _ _ h => .inr h)
            have hR10 := (show Blk w9 r _ _ from hR9).far (p := ⟨ob, 5, none⟩) (show r ≠ ob from fun e => hor e.symm) (.slice (some ⟨g8, 0, none⟩) (j + 1) c8)
            have hp10 := hp9.far (p := ⟨ob, 5, none⟩) (show pb ≠ ob from hpo) (.slice (some ⟨g8, 0, none⟩) (j + 1) c8)
            have ho10 := ho9.set_ 5 (.slice (some ⟨g8, 0, none⟩) (j + 1) c8)
            have hel10 := hel.upd hu9b (fun g hg e => by have h9 : w.heap.size ≤ g := hA8 g hg; omega)
            have hv10 := hv9.upd hu9b (fun g hg e => by omega)
            clear hel hth hu9 ho9 hp9 hR9 hv9 y5 yf hu9b ho8b hp8b hR8b hv8 ho8 hone
            have huall : Upd (fun x => (x = r ∨ x = ob) ∨ some x = bOf A1) wr (w9.setCell ⟨ob, 5, none⟩ (.slice (some ⟨g8, 0, none⟩) (j + 1) c8)) := by
              refine ((((hu0.mono (T := fun x => (x = r ∨ x = ob) ∨ some x = bOf A1) (fun _ _ h => .inl (.inl h))).grown hg8 (fun k hk _ => .inr hk.symm)).trans hu10 (fun i hi e => ?_)))
              rcases e with e | e
              · subst e
                rcases hat8 with h | h
                · exact .inr h
                · have h9 : (some i : Option Nat) = some w6.heap.size := h
                  cases h9
                  have := hu0.size
                  omega
              · exact .inl (.inr e)
            have hnew : ArgRel w (w9.setCell ⟨ob, 5, none⟩ (.slice (some ⟨g8, 0, none⟩) (j + 1) c8)) r pb ob ad b bl c c1 s1 n1 g m gg mm kk R (j + 1) (at_ + q) (vs ++ [v]) (some ⟨g8, 0, none⟩) c8 (xs1 ++ (#[a0, a1, a2, a3, a4] : Array Value).toList) (fun k => if k = vs.length then #[a0, a1, a2, a3, a4] else css1 k) := by
              refine ⟨by omega, by rw [List.length_append, Q.vl]; rfl, hatq, hR10, hp10, ho10, Q.row.push2 (cs := #[a0, a1, a2, a3, a4]) (T := fun x => x = r ∨ x = ob) ?_ hA8 huall (fun g hg => by rcases hg with h | h <;> omega) ?_ ?_, (Q.hu.trans huall (fun i hi e => ?_)), Lib.hid hfn.out⟩
              · rw [Q.vl]
                exact hel10
              · rcases hat8 with h | h
                · exact .inl h
                · exact .inr (fun g hg => by rw [h] at hg; cases hg; have := hu0.size; omega)
              · exact hv10.mono (fun g _ hg => ⟨by omega, fun e => hne8 g hg (by cases e; rfl)⟩)
              · rcases e with e | e
                · exact e
                · have := hA1 i e.symm; omega
            replace hnew := Lib.hid hnew
            clear Q hv10 hu0 hg8 hat8 hu10 huall hne8 hR10 hp10 ho10 hel10
            go_wp2_with fail
            go_roundw
            case rel => exact ⟨j + 1, at_ + q, vs ++ [v], _, c8, _, _, by simp, hnew.out⟩
            case measure => simp [intOf]; omega
          · refine planG_nowF _ rfl rfl rfl (by kernel_rfl) (fun K hK => ?_)
            have y5 := ho8b.cell 5
            have yf := ho8b.frozen 5
            go_simp
            refine hK _ _ ?_
            clear hK K
            have hu9 := (Upd.refl (fun x => x = ob) w8).setCell (p := ⟨ob, 5, none⟩) (fun _ => rfl) (.slice (some ⟨g8, 0, none⟩) (j + 1) c8)
            have hR9 : CAt (w8.setCell ⟨ob, 5, none⟩ (.slice (some ⟨g8, 0, none⟩) (j + 1) c8)) r (some ad) bl c (at_ + q) := (show Blk w8 r _ _ from hR8b).far (p := ⟨ob, 5, none⟩) (show r ≠ ob from fun e => hor e.symm) (.slice (some ⟨g8, 0, none⟩) (j + 1) c8)
            have hp9 := hp8b.far (p := ⟨ob, 5, none⟩) (show pb ≠ ob from hpo) (.slice (some ⟨g8, 0, none⟩) (j + 1) c8)
            have ho9 := ho8b.set_ 5 (.slice (some ⟨g8, 0, none⟩) (j + 1) c8)
            have hv9 := hv8.upd hu9 (fun g hg e => by omega)
            have ho89 := ho8.upd hu9 (fun g hg e => by have h9 : w.heap.size ≤ g := hA8 g hg; omega)
            obtain ⟨hel9, hth9⟩ := own_last (news := [a0, a1, a2, a3, a4]) ho89 (by rw [Q.row.ho.1, hvl]) rfl rfl
            generalize w8.setCell ⟨ob, 5, none⟩ (.slice (some ⟨g8, 0, none⟩) (j + 1) c8) = w9 at *
            try simp only [Act.put, List.setIfInBounds_toArray, List.set_cons_zero, List.set_cons_succ]
            refine planG_nowF _ rfl rfl rfl (by kernel_rfl) (fun K hK => ?_)
            refine wp_store_mid 64 (Operand.tmp 27) (Operand.tmp 23) rfl g8 (j * 5) #[a0, a1, a2, a3, a4] (by simp [go_sem, add_row]) (by simp [go_sem]) hth9 (by kernel_rfl) (by simpa using hone) ?_
            refine hK _ _ ?_
            clear hK K
            refine planG_nil ?_
            have hu9b : Upd (fun x => x = g8) w9 (w9.setCells g8 (j * 5) [a0, a1, a2, a3, a4]) := by
              obtain ⟨s1, s2, s3, s4⟩ := setCells_same g8 (j * 5) [a0, a1, a2, a3, a4] w9
              exact ⟨s1, s2, s3, by omega, fun k _ hk => setCells_other g8 _ k hk _ w9⟩
            have hu10 : Upd (fun x => x = g8 ∨ x = ob) w8 (w9.setCells g8 (j * 5) [a0, a1, a2, a3, a4]) := (hu9.mono (T := fun x => x = g8 ∨ x = ob) (fun _ _ h => .inr h)).trans hu9b (fun _ _ h => .inl h)
            have hR10 : CAt (w9.setCells g8 (j * 5) [a0, a1, a2, a3, a4]) r (some ad) bl c (at_ + q) := Blk.upd hR9 hu9b (fun e => by omega)
            have hp10 := hp9.upd hu9b (fun e => by omega)
            have ho10 := ho9.upd hu9b (fun e => by omega)
            have hel10 := hel9
            have hv10 := hv9.upd hu9b (fun g hg e => hne8 g hg e)
            clear hel hth hel9 hth9 ho89 hu9 ho9 hp9 hR9 hv9 y5 yf hu9b ho8b hp8b hR8b hv8 ho8 hone
            have huall : Upd (fun x => (x = r ∨ x = ob) ∨ some x = bOf A1) wr (w9.setCells g8 (j * 5) [a0, a1, a2, a3, a4]) := by
              refine ((((hu0.mono (T := fun x => (x = r ∨ x = ob) ∨ some x = bOf A1) (fun _ _ h => .inl (.inl h))).grown hg8 (fun k hk _ => .inr hk.symm)).trans hu10 (fun i hi e => ?_)))
              rcases e with e | e
              · subst e
                rcases hat8 with h | h
                · exact .inr h
                · have h9 : (some i : Option Nat) = some w6.heap.size := h
                  cases h9
                  have := hu0.size
                  omega
              · exact .inl (.inr e)
            have hnew : ArgRel w (w9.setCells g8 (j * 5) [a0, a1, a2, a3, a4]) r pb ob ad b bl c c1 s1 n1 g m gg mm kk R (j + 1) (at_ + q) (vs ++ [v]) (some ⟨g8, 0, none⟩) c8 (xs1 ++ (#[a0, a1, a2, a3, a4] : Array Value).toList) (fun k => if k = vs.length then #[a0, a1, a2, a3, a4] else css1 k) := by
              refine ⟨by omega, by rw [List.length_append, Q.vl]; rfl, hatq, hR10, hp10, ho10, Q.row.push2 (cs := #[a0, a1, a2, a3, a4]) (T := fun x => x = r ∨ x = ob) ?_ hA8 huall (fun g hg => by rcases hg with h | h <;> omega) ?_ ?_, (Q.hu.trans huall (fun i hi e => ?_)), Lib.hid hfn.out⟩
              · rw [Q.vl]
                exact hel10
              · rcases hat8 with h | h
                · exact .inl h
                · exact .inr (fun g hg => by rw [h] at hg; cases hg; have := hu0.size; omega)
              · exact hv10.mono (fun g _ hg => ⟨by omega, fun e => hne8 g hg (by cases e; rfl)⟩)
              · rcases e with e | e
                · exact e
                · have := hA1 i e.symm; omega
            replace hnew := Lib.hid hnew
            clear Q hv10 hu0 hg8 hat8 hu10 huall hne8 hR10 hp10 ho10 hel10
            go_wp2_with fail
            go_roundw
            case rel => exact ⟨j + 1, at_ + q, vs ++ [v], _, c8, _, _, by simp, hnew.out⟩
            case measure => simp [intOf]; omega
        · refine planG_now _ rfl rfl rfl (fun K hK => ?_)
          go_wp2_with fail
          have ho4 := (Q.ho.alloc (.cells #[.int .i64 0, .int .i64 0, .float .f64 0, .string ⟨#[]⟩, .slice none 0 0] 64)).drew
          have hp4 := (Q.hp.alloc (.cells #[.int .i64 0, .int .i64 0, .float .f64 0, .string ⟨#[]⟩, .slice none 0 0] 64)).drew
          have hR4 : CAt (wr.alloc (.cells #[.int .i64 0, .int .i64 0, .float .f64 0, .string ⟨#[]⟩, .slice none 0 0] 64)).drew r (some ad) bl c at_ := Blk.drew (Blk.alloc Q.hR (.cells #[.int .i64 0, .int .i64 0, .float .f64 0, .string ⟨#[]⟩, .slice none 0 0] 64))
          have hu4 := (Q.hu.alloc (.cells #[.int .i64 0, .int .i64 0, .float .f64 0, .string ⟨#[]⟩, .slice none 0 0] 64)).drew
          have hu40 : Upd (fun x => x = r) wr (wr.alloc (.cells #[.int .i64 0, .int .i64 0, .float .f64 0, .string ⟨#[]⟩, .slice none 0 0] 64)).drew := ((Upd.refl (fun x => x = r) wr).alloc (.cells #[.int .i64 0, .int .i64 0, .float .f64 0, .string ⟨#[]⟩, .slice none 0 0] 64)).drew
          have hlz := (Blk.new wr 64 #[.int .i64 0, .int .i64 0, .float .f64 0, .string ⟨#[]⟩, .slice none 0 0]).drew
          have hs4 : (wr.alloc (.cells #[.int .i64 0, .int .i64 0, .float .f64 0, .string ⟨#[]⟩, .slice none 0 0] 64)).drew.heap.size = wr.heap.size + 1 := by simp
          have own4 : Own (wr.alloc (.cells #[.int .i64 0, .int .i64 0, .float .f64 0, .string ⟨#[]⟩, .slice none 0 0] 64)).drew 64 5 A1 vs.length cc xs1 := (Q.row.ho.alloc (.cells #[.int .i64 0, .int .i64 0, .float .f64 0, .string ⟨#[]⟩, .slice none 0 0] 64))
          refine hK _ _ _ (fun _ h => h) ⟨ho4.cell 5, hp4.cell 0⟩ ?_
          clear hK K hS
          generalize (wr.alloc (.cells #[.int .i64 0, .int .i64 0, .float .f64 0, .string ⟨#[]⟩, .slice none 0 0] 64)).drew = w4 at *
          try simp only [Act.put, List.setIfInBounds_toArray, List.set_cons_zero, List.set_cons_succ]
          repeat (first | (refine planG_take _ ?_ rfl rfl rfl rfl (fun _ => ?_) ?_; rotate_left; (focus (go_simp; with_reducible rfl)); try simp only [Act.put, List.setIfInBounds_toArray, List.set_cons_zero, List.set_cons_succ]) | (refine planG_held _ ?_ rfl rfl rfl rfl (by assumption) (fun _ hSw => ?_) ?_; rotate_left; (focus ((try dsimp only at hSw); go_simp; with_reducible rfl)); try simp only [Act.put, List.setIfInBounds_toArray, List.set_cons_zero, List.set_cons_succ]) | (refine planG_skip _ rfl rfl (by assumption) ?_; try simp only [Act.put, List.setIfInBounds_toArray, List.set_cons_zero, List.set_cons_succ]))
          refine planG_now _ rfl rfl rfl (fun K hK => ?_)
          go_wp2_with fail
          refine (hcall.out w4 hR4 hu4).mono ?_
          rintro e w6 ⟨cs, rfl, hv5, hR6, hu5⟩
          dsimp only
          have hcs5 := hv5.size
          have hone' := hv5.one
          obtain ⟨a0, a1, a2, a3, a4, rfl⟩ : ∃ a0 a1 a2 a3 a4, cs = #[a0, a1, a2, a3, a4] := by
            match cs, hcs5 with
            | ⟨[a0, a1, a2, a3, a4]⟩, _ => exact ⟨a0, a1, a2, a3, a4, rfl⟩
          have hone := hone'
          have hrwr := Blk.lt Q.hR
          have ho6 := ho4.upd hu5 (fun e => hor e)
          have hp6 := hp4.upd hu5 (fun e => hpr e)
          have hlz6 := hlz.upd hu5 (fun e => by omega)
          have hv6 : VOwn w6 (fun g => wr.heap.size < g ∧ g < w6.heap.size) v #[a0, a1, a2, a3, a4] := hv5.mono (fun g hg h => ⟨by have h9 : w4.heap.size ≤ g := h; omega, hg⟩)
          have own6 := own4.upd hu5 (fun g hg e => by have := Q.row.hA g hg; omega)
          rw [hvl] at own6
          have hsrc := lit_reads hlz6
          have hu0 := hu40.trans hu5 (fun _ _ h => h)
          have hu6 := Q.hu.trans (hu0.mono (T := fun x => x = r ∨ x = ob) (fun _ _ h => .inl h)) (fun _ _ h => h)
          refine hK _ _ _ (fun _ h => h) ⟨ho6.cell 5, hp6.cell 0⟩ ?_
          clear hK K hv5 hone' hcs5 ho4 hp4 own4 hlz hlz6 hu4 hu40 hu5 hR4
          try simp only [Act.put, List.setIfInBounds_toArray, List.set_cons_zero, List.set_cons_succ]
          repeat (first | (refine planG_take _ ?_ rfl rfl rfl rfl (fun _ => ?_) ?_; rotate_left; (focus (go_simp; with_reducible rfl)); try simp only [Act.put, List.setIfInBounds_toArray, List.set_cons_zero, List.set_cons_succ]) | (refine planG_held _ ?_ rfl rfl rfl rfl (by assumption) (fun _ hSw => ?_) ?_; rotate_left; (focus ((try dsimp only at hSw); go_simp; with_reducible rfl)); try simp only [Act.put, List.setIfInBounds_toArray, List.set_cons_zero, List.set_cons_succ]) | (refine planG_skip _ rfl rfl (by assumption) ?_; try simp only [Act.put, List.setIfInBounds_toArray, List.set_cons_zero, List.set_cons_succ]))
          refine planG_now _ rfl rfl rfl (fun K hK => ?_)
          refine wp_append_mine _ _ 36 36 rfl 64 i1 _ 5 64 Try.underlying36 gi gz0 gz1 gz2 rfl rfl own6 rfl (Src.ofReads Try.underlying36 _ hsrc (by intro u hu; simp at hu; rcases hu with rfl | rfl | rfl | rfl | rfl <;> rfl)) (by unfold maxLen; omega) (by omega) (fun A8 c8 w8 ho8 hg8 hat8 => ?_)
          have hA1 : ∀ g, bOf A1 = some g → w.heap.size ≤ g := Q.row.hA
          have hA8 : ∀ g, bOf A8 = some g → w.heap.size ≤ g := fun g hg => by
            rcases hat8 with h | h
            · rw [h] at hg; exact hA1 g hg
            · rw [h] at hg; cases hg; exact hu6.size
          obtain ⟨g8, rfl⟩ : ∃ g8, A8 = some ⟨g8, 0, none⟩ := by
            rcases ho8.2 with ⟨h1, _⟩ | ⟨g8, _, h1, _⟩
            · omega
            · exact ⟨g8, h1⟩
          have hg8w := hA8 g8 rfl
          obtain ⟨hel, hth⟩ := own_last (news := [a0, a1, a2, a3, a4]) ho8 (by rw [Q.row.ho.1, hvl]) rfl rfl
          have ho8b := ho6.grown hg8 (fun e => by have := hA1 _ e.symm; omega)
          have hp8b := hp6.grown hg8 (fun e => by have := hA1 _ e.symm; omega)
          have hR8b : CAt w8 r (some ad) bl c (at_ + q) := Blk.grown hR6 hg8 (fun e => by have := hA1 _ e.symm; omega)
          have hv8 := hv6.upd ((Upd.refl (fun x => some x = bOf A1) w6).grown hg8 (fun k hk _ => hk.symm)) (fun g hg e => by have := Q.row.ho.lt e.symm; omega)
          have hne8 : ∀ g, wr.heap.size < g ∧ g < w6.heap.size → g ≠ g8 := fun g hg e => by
            subst e
            rcases hat8 with h | h
            · exact absurd (show g < wr.heap.size from Q.row.ho.lt h.symm) (by omega)
            · have h9 : (some g : Option Nat) = some w6.heap.size := h
              cases h9; omega
          refine hK _ _ _ (fun _ h => h) ⟨ho8b.cell 5, hp8b.cell 0⟩ ?_
          clear hK K own6 hsrc ho6 hp6 hR6 hv6 hu6
          try simp only [Act.put, List.setIfInBounds_toArray, List.set_cons_zero, List.set_cons_succ]
          have hjj : (j : Int) < (j : Int) + 1 := by omega
          repeat (first | (refine planG_take _ ?_ rfl rfl rfl rfl (fun _ => ?_) ?_; rotate_left; (focus (go_simp; with_reducible rfl)); try simp only [Act.put, List.setIfInBounds_toArray, List.set_cons_zero, List.set_cons_succ]) | (refine planG_held _ ?_ rfl rfl rfl rfl (by assumption) (fun _ hSw => ?_) ?_; rotate_left; (focus ((try dsimp only at hSw); go_simp; with_reducible rfl)); try simp only [Act.put, List.setIfInBounds_toArray, List.set_cons_zero, List.set_cons_succ]) | (refine planG_skip _ rfl rfl (by assumption) ?_; try simp only [Act.put, List.setIfInBounds_toArray, List.set_cons_zero, List.set_cons_succ]))
          clear hjj
          refine planG_two rfl rfl ?_ ?_
          · refine planG_nowF _ rfl rfl rfl (by kernel_rfl) (fun K hK => ?_)
            refine wp_store_mid 64 (Operand.tmp 27) (Operand.tmp 23) rfl g8 (j * 5) #[a0, a1, a2, a3, a4] (by simp [go_sem, add_row]) (by simp [go_sem]) hth (by kernel_rfl) (by simpa using hone) ?_
            refine hK _ _ ?_
            clear hK K
            have hu9 : Upd (fun x => x = g8) w8 (w8.setCells g8 (j * 5) [a0, a1, a2, a3, a4]) := by
              obtain ⟨s1, s2, s3, s4⟩ := setCells_same g8 (j * 5) [a0, a1, a2, a3, a4] w8
              exact ⟨s1, s2, s3, by omega, fun k _ hk => setCells_other g8 _ k hk _ w8⟩
            have ho9 := ho8b.upd hu9 (fun e => by omega)
            have hp9 := hp8b.upd hu9 (fun e => by omega)
            have hR9 : CAt (w8.setCells g8 (j * 5) [a0, a1, a2, a3, a4]) r (some ad) bl c (at_ + q) := Blk.upd hR8b hu9 (fun e => by omega)
            have hv9 := hv8.upd hu9 (fun g hg e => hne8 g hg e)
            generalize w8.setCells g8 (j * 5) [a0, a1, a2, a3, a4] = w9 at *
            try simp only [Act.put, List.setIfInBounds_toArray, List.set_cons_zero, List.set_cons_succ]
            refine planG_nowF _ rfl rfl rfl (by kernel_rfl) (fun K hK => ?_)
            have y5 := ho9.cell 5
            have yf := ho9.frozen 5
            go_simp
            refine hK _ _ ?_
            clear hK K
            refine planG_nil ?_
            have hu9b := (Upd.refl (fun x => x = ob) w9).setCell (p := ⟨ob, 5, none⟩) (fun _ => rfl) (.slice (some ⟨g8, 0, none⟩) (j + 1) c8)
            have hu10 : Upd (fun x => x = g8 ∨ x = ob) w8 (w9.setCell ⟨ob, 5, none⟩ (.slice (some ⟨g8, 0, none⟩) (j + 1) c8)) := (hu9.mono (T := fun x => x = g8 ∨ x = ob) (fun _ _ h => .inl h)).trans hu9b (fun _ _ h => .inr h)
            have hR10 := (show Blk w9 r _ _ from hR9).far (p := ⟨ob, 5, none⟩) (show r ≠ ob from fun e => hor e.symm) (.slice (some ⟨g8, 0, none⟩) (j + 1) c8)
            have hp10 := hp9.far (p := ⟨ob, 5, none⟩) (show pb ≠ ob from hpo) (.slice (some ⟨g8, 0, none⟩) (j + 1) c8)
            have ho10 := ho9.set_ 5 (.slice (some ⟨g8, 0, none⟩) (j + 1) c8)
            have hel10 := hel.upd hu9b (fun g hg e => by have h9 : w.heap.size ≤ g := hA8 g hg; omega)
            have hv10 := hv9.upd hu9b (fun g hg e => by omega)
            clear hel hth hu9 ho9 hp9 hR9 hv9 y5 yf hu9b ho8b hp8b hR8b hv8 ho8 hone
            have huall : Upd (fun x => (x = r ∨ x = ob) ∨ some x = bOf A1) wr (w9.setCell ⟨ob, 5, none⟩ (.slice (some ⟨g8, 0, none⟩) (j + 1) c8)) := by
              refine ((((hu0.mono (T := fun x => (x = r ∨ x = ob) ∨ some x = bOf A1) (fun _ _ h => .inl (.inl h))).grown hg8 (fun k hk _ => .inr hk.symm)).trans hu10 (fun i hi e => ?_)))
              rcases e with e | e
              · subst e
                rcases hat8 with h | h
                · exact .inr h
                · have h9 : (some i : Option Nat) = some w6.heap.size := h
                  cases h9
                  have := hu0.size
                  omega
              · exact .inl (.inr e)
            have hnew : ArgRel w (w9.setCell ⟨ob, 5, none⟩ (.slice (some ⟨g8, 0, none⟩) (j + 1) c8)) r pb ob ad b bl c c1 s1 n1 g m gg mm kk R (j + 1) (at_ + q) (vs ++ [v]) (some ⟨g8, 0, none⟩) c8 (xs1 ++ (#[a0, a1, a2, a3, a4] : Array Value).toList) (fun k => if k = vs.length then #[a0, a1, a2, a3, a4] else css1 k) := by
              refine ⟨by omega, by rw [List.length_append, Q.vl]; rfl, hatq, hR10, hp10, ho10, Q.row.push2 (cs := #[a0, a1, a2, a3, a4]) (T := fun x => x = r ∨ x = ob) ?_ hA8 huall (fun g hg => by rcases hg with h | h <;> omega) ?_ ?_, (Q.hu.trans huall (fun i hi e => ?_)), Lib.hid hfn.out⟩
              · rw [Q.vl]
                exact hel10
              · rcases hat8 with h | h
                · exact .inl h
                · exact .inr (fun g hg => by rw [h] at hg; cases hg; have := hu0.size; omega)
              · exact hv10.mono (fun g _ hg => ⟨by omega, fun e => hne8 g hg (by cases e; rfl)⟩)
              · rcases e with e | e
                · exact e
                · have := hA1 i e.symm; omega
            replace hnew := Lib.hid hnew
            clear Q hv10 hu0 hg8 hat8 hu10 huall hne8 hR10 hp10 ho10 hel10
            go_wp2_with fail
            go_roundw
            case rel => exact ⟨j + 1, at_ + q, vs ++ [v], _, c8, _, _, by simp, hnew.out⟩
            case measure => simp [intOf]; omega
          · refine planG_nowF _ rfl rfl rfl (by kernel_rfl) (fun K hK => ?_)
            have y5 := ho8b.cell 5
            have yf := ho8b.frozen 5
            go_simp
            refine hK _ _ ?_
            clear hK K
            have hu9 := (Upd.refl (fun x => x = ob) w8).setCell (p := ⟨ob, 5, none⟩) (fun _ => rfl) (.slice (some ⟨g8, 0, none⟩) (j + 1) c8)
            have hR9 : CAt (w8.setCell ⟨ob, 5, none⟩ (.slice (some ⟨g8, 0, none⟩) (j + 1) c8)) r (some ad) bl c (at_ + q) := (show Blk w8 r _ _ from hR8b).far (p := ⟨ob, 5, none⟩) (show r ≠ ob from fun e => hor e.symm) (.slice (some ⟨g8, 0, none⟩) (j + 1) c8)
            have hp9 := hp8b.far (p := ⟨ob, 5, none⟩) (show pb ≠ ob from hpo) (.slice (some ⟨g8, 0, none⟩) (j + 1) c8)
            have ho9 := ho8b.set_ 5 (.slice (some ⟨g8, 0, none⟩) (j + 1) c8)
            have hv9 := hv8.upd hu9 (fun g hg e => by omega)
            have ho89 := ho8.upd hu9 (fun g hg e => by have h9 : w.heap.size ≤ g := hA8 g hg; omega)
            obtain ⟨hel9, hth9⟩ := own_last (news := [a0, a1, a2, a3, a4]) ho89 (by rw [Q.row.ho.1, hvl]) rfl rfl
            generalize w8.setCell ⟨ob, 5, none⟩ (.slice (some ⟨g8, 0, none⟩) (j + 1) c8) = w9 at *
            try simp only [Act.put, List.setIfInBounds_toArray, List.set_cons_zero, List.set_cons_succ]
            refine planG_nowF _ rfl rfl rfl (by kernel_rfl) (fun K hK => ?_)
            refine wp_store_mid 64 (Operand.tmp 27) (Operand.tmp 23) rfl g8 (j * 5) #[a0, a1, a2, a3, a4] (by simp [go_sem, add_row]) (by simp [go_sem]) hth9 (by kernel_rfl) (by simpa using hone) ?_
            refine hK _ _ ?_
            clear hK K
            refine planG_nil ?_
            have hu9b : Upd (fun x => x = g8) w9 (w9.setCells g8 (j * 5) [a0, a1, a2, a3, a4]) := by
              obtain ⟨s1, s2, s3, s4⟩ := setCells_same g8 (j * 5) [a0, a1, a2, a3, a4] w9
              exact ⟨s1, s2, s3, by omega, fun k _ hk => setCells_other g8 _ k hk _ w9⟩
            have hu10 : Upd (fun x => x = g8 ∨ x = ob) w8 (w9.setCells g8 (j * 5) [a0, a1, a2, a3, a4]) := (hu9.mono (T := fun x => x = g8 ∨ x = ob) (fun _ _ h => .inr h)).trans hu9b (fun _ _ h => .inl h)
            have hR10 : CAt (w9.setCells g8 (j * 5) [a0, a1, a2, a3, a4]) r (some ad) bl c (at_ + q) := Blk.upd hR9 hu9b (fun e => by omega)
            have hp10 := hp9.upd hu9b (fun e => by omega)
            have ho10 := ho9.upd hu9b (fun e => by omega)
            have hel10 := hel9
            have hv10 := hv9.upd hu9b (fun g hg e => hne8 g hg e)
            clear hel hth hel9 hth9 ho89 hu9 ho9 hp9 hR9 hv9 y5 yf hu9b ho8b hp8b hR8b hv8 ho8 hone
            have huall : Upd (fun x => (x = r ∨ x = ob) ∨ some x = bOf A1) wr (w9.setCells g8 (j * 5) [a0, a1, a2, a3, a4]) := by
              refine ((((hu0.mono (T := fun x => (x = r ∨ x = ob) ∨ some x = bOf A1) (fun _ _ h => .inl (.inl h))).grown hg8 (fun k hk _ => .inr hk.symm)).trans hu10 (fun i hi e => ?_)))
              rcases e with e | e
              · subst e
                rcases hat8 with h | h
                · exact .inr h
                · have h9 : (some i : Option Nat) = some w6.heap.size := h
                  cases h9
                  have := hu0.size
                  omega
              · exact .inl (.inr e)
            have hnew : ArgRel w (w9.setCells g8 (j * 5) [a0, a1, a2, a3, a4]) r pb ob ad b bl c c1 s1 n1 g m gg mm kk R (j + 1) (at_ + q) (vs ++ [v]) (some ⟨g8, 0, none⟩) c8 (xs1 ++ (#[a0, a1, a2, a3, a4] : Array Value).toList) (fun k => if k = vs.length then #[a0, a1, a2, a3, a4] else css1 k) := by
              refine ⟨by omega, by rw [List.length_append, Q.vl]; rfl, hatq, hR10, hp10, ho10, Q.row.push2 (cs := #[a0, a1, a2, a3, a4]) (T := fun x => x = r ∨ x = ob) ?_ hA8 huall (fun g hg => by rcases hg with h | h <;> omega) ?_ ?_, (Q.hu.trans huall (fun i hi e => ?_)), Lib.hid hfn.out⟩
              · rw [Q.vl]
                exact hel10
              · rcases hat8 with h | h
                · exact .inl h
                · exact .inr (fun g hg => by rw [h] at hg; cases hg; have := hu0.size; omega)
              · exact hv10.mono (fun g _ hg => ⟨by omega, fun e => hne8 g hg (by cases e; rfl)⟩)
              · rcases e with e | e
                · exact e
                · have := hA1 i e.symm; omega
            replace hnew := Lib.hid hnew
            clear Q hv10 hu0 hg8 hat8 hu10 huall hne8 hR10 hp10 ho10 hel10
            go_wp2_with fail
            go_roundw
            case rel => exact ⟨j + 1, at_ + q, vs ++ [v], _, c8, _, _, by simp, hnew.out⟩
            case measure => simp [intOf]; omega
    · have hj' : j = kk := by have := Q.jl; omega
      subst hj'
      have hd : decide ((j : Int) < (j : Int)) = false := decide_eq_false (by omega)
      have hRs : R = some (⟨c1, s1, n1, g, m, vs⟩, at_) := by
        rw [← Q.hf.out, Nat.sub_self]
        show some _ = some _
        rw [List.append_nil, Nat.add_zero]
      subst hRs
      have hov := Q.ho
      rw [← hgg.out, ← hmm.out, ← Q.vl] at hov
      have hfin : ClRes w r ob (some ad) bl c (some (⟨c1, s1, n1, g, m, vs⟩, at_)) (.returned (.tuple #[])) wr := ⟨rfl, Q.hR, ⟨A1, cc, xs1, css1, hov, Q.row⟩, Q.hu⟩
      replace hfin := Lib.hid hfin
      clear Q hov
      go_wp2_with fail
      go_end0
      exact hfin.out
end Go.Proofs.Ytlkokkbikkbaoaa
