/- What is put is read back cleaned: calls, replies. Plain. -/
import Derived.Test.YtblakaddanoilaaRepRd
namespace Go.Proofs.Ytblakaddanoilaa
open Go.RowKit
set_option maxRecDepth 100000

theorem readT_encm (s more : List UInt8) (m : Int) (h : (s.length : Int) ≤ m) (h65 : s.length ≤ 65535) : readT (putU s.length 2 ++ s ++ more) m = (s, 2 + s.length, 0) := by
  have hr : readU (putU s.length 2) = s.length := by rw [readU_put]; exact Nat.mod_eq_of_lt (by omega)
  unfold readT
  rw [List.append_assoc, take_putU, drop_putU, hr, if_pos ⟨by simp [putU_len], by omega, by simp [putU_len]; omega⟩, List.take_left]

theorem rdV_enc (v : Val) (more : List UInt8) (hok : OkV v) (h : checkV v = 0) : rdV (encV v ++ more) = some (cleanV v, (encV v).length) := by
  obtain ⟨h1, h2, h3⟩ := checkV_zero h
  rw [rdV_some (pv_enc v 8 more hok h1 h2) h3, encV_len]
theorem pl_rdV_enc : ∀ (l : List Val) (more : List UInt8), (∀ v ∈ l, OkV v) → errL l = 0 → pl rdV l.length (encL l ++ more) = some (l.map cleanV, (encL l).length)
  | [], more, _, _ => rfl
  | v :: l, more, hok, he => by
    have hv : checkV v = 0 := by
      unfold errL at he
      split at he
      · assumption
      · rename_i h; simpa using h
    have hl : errL l = 0 := by
      unfold errL at he
      rw [if_neg (by simp [hv])] at he
      exact he
    show pl rdV (l.length + 1) ((encV v ++ encL l) ++ more) = some (cleanV v :: l.map cleanV, (encV v ++ encL l).length)
    rw [List.append_assoc, pl, rdV_enc v _ (hok v (by simp)) hv]
    dsimp only
    rw [List.drop_left, pl_rdV_enc l more (fun x hx => hok x (by simp [hx])) hl, List.length_append]

theorem bytesO_app (o : OpD) (more : List UInt8) : bytesO o ++ more = putU o.c 4 ++ (putU o.s 4 ++ (putU o.n 2 ++ ((putU o.g.length 2 ++ o.g) ++ ((putU o.m.length 2 ++ o.m) ++ ([UInt8.ofNat o.l.length] ++ (encL o.l ++ more)))))) := by
  unfold bytesO headO idB
  simp only [List.append_assoc]
theorem bytesO_len (o : OpD) : (bytesO o).length = 10 + (2 + o.g.length) + (2 + o.m.length) + 1 + (encL o.l).length := by
  unfold bytesO headO
  simp only [List.length_append, idB_len, putU_len, List.length_cons, List.length_nil]
theorem putU_back (v k : Nat) (h : v < 256 ^ k) : readU (putU v k) = v := by rw [readU_put]; exact Nat.mod_eq_of_lt h

theorem drop_at {b x y : List UInt8} {a n m : Nat} (h : b.drop a = x ++ y) (hx : x.length = n) (hm : a + n = m) : b.drop m = y := by
  rw [← hm, ← List.drop_drop, h, ← hx, List.drop_left]

theorem errO_zero {o : OpD} (h : errO o = 0) : o.l.length ≤ 16 ∧ o.g.length ≤ 32 ∧ o.m.length ≤ 32 ∧ errL o.l = 0 := by
  unfold errO at h
  split at h
  · cases h
  · split at h
    · cases h
    · split at h
      · cases h
      · exact ⟨by omega, by omega, by omega, h⟩

theorem rdOp_enc (o : OpD) (more : List UInt8) (hok : ∀ v ∈ o.l, OkV v) (hc : o.c < 4294967296) (hs : o.s < 4294967296) (hn : o.n < 65536) (he : errO o = 0) :
    rdOp (bytesO o ++ more) = some (⟨o.c, o.s, o.n, o.g, o.m, o.l.map cleanV⟩, (bytesO o).length) := by
  obtain ⟨hl, hg, hm, hel⟩ := errO_zero he
  obtain ⟨b, hb⟩ : ∃ b, bytesO o ++ more = b := ⟨_, rfl⟩
  have hlen : b.length = (bytesO o).length + more.length := by rw [← hb, List.length_append]
  have hbl := bytesO_len o
  rw [hb]
  have hb0 := bytesO_app o more
  rw [hb, show b = b.drop 0 from rfl] at hb0
  have h4 := drop_at hb0 (putU_len _ _) (m := 4) rfl
  have h8 := drop_at h4 (putU_len _ _) (m := 8) rfl
  have h10 := drop_at h8 (putU_len _ _) (m := 10) rfl
  have hg2 : (putU o.g.length 2 ++ o.g).length = 2 + o.g.length := by rw [List.length_append, putU_len]
  have hm2 : (putU o.m.length 2 ++ o.m).length = 2 + o.m.length := by rw [List.length_append, putU_len]
  have h12 := drop_at h10 hg2 (m := 10 + (2 + o.g.length)) rfl
  have h14 := drop_at h12 hm2 (m := 10 + (2 + o.g.length) + (2 + o.m.length)) rfl
  have h15 := drop_at h14 (n := 1) rfl (m := 10 + (2 + o.g.length) + (2 + o.m.length) + 1) rfl
  have t1 : b.take 4 = putU o.c 4 := by rw [show b = b.drop 0 from rfl, hb0, take_putU]
  have t2 : (b.drop 4).take 4 = putU o.s 4 := by rw [h4, take_putU]
  have t3 : (b.drop 8).take 2 = putU o.n 2 := by rw [h8, take_putU]
  have r1 : readT (b.drop 10) 32 = (o.g, 2 + o.g.length, 0) := by rw [h10]; exact readT_encm _ _ _ (by omega) (by omega)
  have r2 : readT (b.drop (10 + (2 + o.g.length))) 32 = (o.m, 2 + o.m.length, 0) := by rw [h12]; exact readT_encm _ _ _ (by omega) (by omega)
  have hk : readU ((b.drop (10 + (2 + o.g.length) + (2 + o.m.length))).take 1) = o.l.length := by
    rw [h14]
    show readU [UInt8.ofNat o.l.length] = _
    have h1 : readU [UInt8.ofNat o.l.length] = (UInt8.ofNat o.l.length).toNat := by unfold readU; simp
    rw [h1, UInt8.toNat_ofNat']
    omega
  unfold rdOp
  rw [if_neg (by omega), r1]
  dsimp only
  rw [if_neg (by omega), r2]
  dsimp only
  rw [if_neg (by omega), if_neg (by omega), hk, if_neg (by omega), h15, pl_rdV_enc o.l more hok hel]
  dsimp only
  rw [t1, t2, t3, putU_back _ _ (by omega), putU_back _ _ (by omega), putU_back _ _ (by omega), hbl]

theorem bytesR_app (c s n : Nat) (er : Int) (v : Val) (more : List UInt8) : bytesR c s n er v ++ more = putU c 4 ++ (putU s 4 ++ (putU n 2 ++ (putU er.toNat 2 ++ (encV v ++ more)))) := by
  unfold bytesR idB
  simp only [List.append_assoc]
theorem bytesR_len (c s n : Nat) (er : Int) (v : Val) : (bytesR c s n er v).length = 12 + (encV v).length := by
  unfold bytesR
  simp only [List.length_append, idB_len, putU_len]

theorem rdRep_enc (c s n : Nat) (er : Int) (v : Val) (more : List UInt8) (hok : OkV v) (hc : c < 4294967296) (hs : s < 4294967296) (hn : n < 65536) (he : errR er v = 0) :
    rdRep (bytesR c s n er v ++ more) = some ((c, s, n, er.toNat), cleanV v, (bytesR c s n er v).length) := by
  have he2 : (0 ≤ er ∧ er ≤ 65535) ∧ checkV v = 0 := by
    unfold errR at he
    split at he
    · cases he
    · exact ⟨by omega, he⟩
  obtain ⟨⟨he0, he1⟩, hv⟩ := he2
  obtain ⟨b, hb⟩ : ∃ b, bytesR c s n er v ++ more = b := ⟨_, rfl⟩
  have hbl := bytesR_len c s n er v
  have hlen : b.length = 12 + (encV v).length + more.length := by rw [← hb, List.length_append, hbl]
  rw [hb]
  have hb0 := bytesR_app c s n er v more
  rw [hb, show b = b.drop 0 from rfl] at hb0
  have h4 := drop_at hb0 (putU_len _ _) (m := 4) rfl
  have h8 := drop_at h4 (putU_len _ _) (m := 8) rfl
  have h10 := drop_at h8 (putU_len _ _) (m := 10) rfl
  have h12 := drop_at h10 (putU_len _ _) (m := 12) rfl
  have t1 : b.take 4 = putU c 4 := by rw [show b = b.drop 0 from rfl, hb0, take_putU]
  have t2 : (b.drop 4).take 4 = putU s 4 := by rw [h4, take_putU]
  have t3 : (b.drop 8).take 2 = putU n 2 := by rw [h8, take_putU]
  have t4 : (b.drop 10).take 2 = putU er.toNat 2 := by rw [h10, take_putU]
  unfold rdRep
  rw [if_neg (by omega), if_neg (by omega), h12, rdV_enc v more hok hv]
  dsimp only
  rw [t1, t2, t3, t4, putU_back _ _ (by omega), putU_back _ _ (by omega), putU_back _ _ (by omega), putU_back _ _ (by omega), hbl]
end Go.Proofs.Ytblakaddanoilaa
