/- The link: Recv. -/
import Derived.Test.YtflgmphghmkciaaLk3
import Derived.Deep.CutBlock
import Derived.Test.YtflgmphghmkciaaLk5
set_option linter.unusedSimpArgs false
set_option linter.unusedVariables false
namespace Go.Proofs.Ytflgmphghmkciaa
open Go.RowKit
set_option maxRecDepth 100000

theorem take_putU {v k : Nat} (l : List UInt8) : (putU v k ++ l).take k = putU v k := by
  have := List.take_left (l₁ := putU v k) (l₂ := l)
  rwa [putU_len] at this
theorem drop_putU {v k : Nat} (l : List UInt8) : (putU v k ++ l).drop k = l := by
  have := List.drop_left (l₁ := putU v k) (l₂ := l)
  rwa [putU_len] at this
theorem opened_framed (p : List UInt8) (hp : p.length ≤ 65536) : opened (framed p) = (p, 8 + p.length, 0) := by
  have h4 : (framed p).take 4 = putU p.length 4 := by simp only [framed, List.append_assoc]; exact take_putU _
  have hd4 : (framed p).drop 4 = putU (fsum p) 4 ++ p := by simp only [framed, List.append_assoc]; exact drop_putU _
  have hd8 : (framed p).drop 8 = p := by
    rw [show (8 : Nat) = 4 + 4 from rfl, ← List.drop_drop, hd4]; exact drop_putU _
  have hn : readU (putU p.length 4) = p.length := by rw [readU_put]; exact Nat.mod_eq_of_lt (by omega)
  have hs : readU (putU (fsum p) 4) = fsum p := by rw [readU_put]; exact Nat.mod_eq_of_lt (fsum_lt p)
  have hl : (framed p).length = 8 + p.length := framed_len p
  unfold opened
  rw [if_neg (by omega), h4, hn, if_neg (by omega), if_neg (by omega), hd8, hd4, take_putU, hs, List.take_length, if_pos rfl]
theorem pre_at {l : List Nat} {K v : Nat} (body : List UInt8) (h : l[K]? = some v) : ((pre l ++ body).drop (8 * K)).take 8 = putU v 8 := by
  induction l generalizing K with
  | nil => simp at h
  | cons u r ih =>
    cases K with
    | zero =>
      simp at h
      subst h
      rw [Nat.mul_zero, List.drop_zero]
      show ((putU u 8 ++ pre r) ++ body).take 8 = _
      rw [List.append_assoc]
      exact take_putU _
    | succ K =>
      rw [List.getElem?_cons_succ] at h
      rw [show 8 * (K + 1) = 8 + 8 * K from by omega, ← List.drop_drop]
      show ((((putU u 8 ++ pre r) ++ body).drop 8).drop (8 * K)).take 8 = _
      rw [List.append_assoc, drop_putU]
      exact ih h
theorem readU_at {l : List Nat} {K v : Nat} (body : List UInt8) (h : l[K]? = some v) (hv : v < 18446744073709551616) : readU (((pre l ++ body).drop (8 * K)).take 8) = v := by
  rw [pre_at body h, readU_put]
  exact Nat.mod_eq_of_lt (by omega)

/-- A packet: its numbers, its body. -/
structure Pk where
  o : Nat
  r : Nat
  c : Nat
  n : Nat
  b : List UInt8
def Pk.enc (p : Pk) : List UInt8 := pktB p.o p.r p.c p.n p.b
def lifeD (d : LkD) (o : Nat) : LkD := if d.other < o then { d with l := d.l.map (fun m => (m.1, true)), other := o, came := 0, first := 1, heard := true } else { d with heard := true }
def mineD (d : LkD) (p : Pk) : LkD := if p.r = d.own then ackedD (lifeD d p.o) p.c else lifeD d p.o
def recvD (d : LkD) (p : Pk) : LkD := if p.n ≠ 0 ∧ p.n = (mineD d p).came + 1 then { mineD d p with came := p.n } else mineD d p
def recvM (d : LkD) (p : Pk) : List (List UInt8) := if p.n ≠ 0 ∧ p.n = (mineD d p).came + 1 then [p.b] else []
theorem lifeD_own (d : LkD) (o : Nat) : (lifeD d o).own = d.own := by unfold lifeD; split <;> rfl
theorem lifeD_len (d : LkD) (o : Nat) : (lifeD d o).l.length = d.l.length := by unfold lifeD; split <;> simp
theorem lifeD_ok {d : LkD} {o : Nat} (h : LkOk d) (ho : o < 1000000) : LkOk (lifeD d o) := by
  unfold lifeD
  split
  · refine ⟨h.own, ho, by dsimp only; rw [List.length_map]; exact h.l, fun m hm => ?_, by show 1 < 1000000; decide, by show 0 < 1000000; decide, h.ticks⟩
    obtain ⟨q, hq, rfl⟩ := List.mem_map.1 hm
    exact h.b q hq
  · exact ⟨h.own, h.other, h.l, h.b, h.first, h.came, h.ticks⟩
theorem ackedD_came (d : LkD) (n : Nat) : (ackedD d n).came = d.came := by unfold ackedD; split <;> rfl
/-- What Recv leaves. -/
def RecvRes (col : Nat → Nat) (k : Nat) (w : World) (g : Nat) (d' : LkD) (L : List (List UInt8)) (e : Ending) (w' : World) : Prop :=
  ∃ A c col', e = .returned (.tuple #[.slice A L.length c, .int .i64 0]) ∧ Stp col k w col' w' ∧ LinkC col' k w' g d' ∧ PksC col' 0 w' A c L
theorem recv_mk {col col' : Nat → Nat} {k : Nat} {w w' : World} {g : Nat} {d' dd : LkD} {L LL : List (List UInt8)} {A : Option Addr} {M c : Nat} (hd : dd = d') (hoo : LL = L) (hM : L.length = M) (h : Stp col k w col' w' ∧ LinkC col' k w' g d' ∧ PksC col' 0 w' A c L) : RecvRes col k w g dd LL (.returned (.tuple #[.slice A M c, .int .i64 0])) w' := by
  subst hd hoo hM
  exact ⟨A, c, col', rfl, h.1, h.2.1, h.2.2⟩

theorem body_row {col : Nat → Nat} {w w' : World} {y : Nat} {A : Option Addr} {n cc : Nat} {b : List UInt8} (hw : w' = w.alloc (.cells #[.slice A n cc] 29)) (hc : Cx w col) (h : FrB col w A b) (hn : b.length = n) (hcc : n ≤ cc) (hy : y = w.heap.size) : PksC col 0 w' (some ⟨y, 0, none⟩) 1 [b] ∧ Below w.heap.size w w' := by
  subst hn hy
  have hb : Below w.heap.size w w' := by rw [hw]; exact (Below.refl _ _).alloc (Nat.le_refl _) _
  refine ⟨⟨[.slice A b.length cc], ?_, fun j x hj => ?_, fun y hy => hc y (by cases hy; exact Nat.le_refl _)⟩, hb⟩
  · rw [hw]; exact Own.new w 29 1 1 #[.slice A b.length cc] rfl (by decide)
  · match j with
    | 0 => simp at hj; subst hj; exact ⟨A, cc, rfl, hcc, h.below hc hb⟩
    | j + 1 => simp at hj
theorem FrB.tail {col : Nat → Nat} {w : World} {q : Nat} {P pb : List UInt8} (h : FrB col w (some ⟨q, 0, none⟩) P) (hl : P.length = 32 + pb.length) (hd : P.drop 32 = pb) : FrB col w (some ⟨q, 32, none⟩) pb := by
  have hr := h.1.cut (k := 32) (cap := P.length) (by omega) (Nat.le_refl _)
  rw [Nat.mul_one, bys_drop, hd, show P.length - 32 = pb.length from by omega] at hr
  refine ⟨⟨hr.1, fun hn => ?_⟩, fun hn y hy => h.2 (by omega) y hy⟩
  rw [if_neg (by omega)] at hr
  have := hr.2 hn
  simpa [add_off] using this
theorem FrB.nil {col : Nat → Nat} {w : World} {A : Option Addr} {pb : List UInt8} (h : pb.length = 0) : FrB col w A pb := by
  have : pb = [] := List.eq_nil_of_length_eq_zero h
  subst this
  exact ⟨⟨by simp [bys], fun h => absurd h (by simp)⟩, fun h => absurd h (by simp)⟩
theorem lk_recv_bad {w : World} {g : Nat} {b : List UInt8} {B : Option Addr} {c x : Nat} (hr : Reads w w.heap.size 1 B b.length (bys b)) (hbc : b.length ≤ c) (hbl : b.length ≤ 1000000) (ho : opened b = ([], 0, x)) (hx : x ≠ 0) : Calls Try.prog 8 #[lnk g, .slice B b.length c] w (Says w (.tuple #[.slice none 0 0, .int .i64 20])) := by
  have hop := open_walk hr hbc (by omega)
  rw [ho] at hop
  have hx' : ((x : Int) == 0) = false := by rw [beq_eq_false_iff_ne]; omega
  replace hop := Lib.hid hop
  clear ho hr
  unfold lnk
  go_enter Try.func8, Try.ntmps8
  go_wp2_with fail
  refine hop.out.mono ?_
  rintro e w1 ⟨A1, c1, rfl, ho1, hb1, hg1⟩
  try dsimp only
  go_wp2_with fail
  go_ret2
  exact ⟨rfl, hb1⟩
set_option maxHeartbeats 6400000 in
theorem lk_recv {col : Nat → Nat} {k : Nat} {w : World} {g : Nat} {d : LkD} {p : Pk} {B : Option Addr} {cb : Nat} (hc : Cx w col) (h : LinkC col k w g d) (hd : LkOk d) (hr : Reads w w.heap.size 1 B p.enc.length (bys p.enc)) (hbc : p.enc.length ≤ cb)
    (hpo : p.o < 1000000) (hpr : p.r < 1000000) (hpc : p.c < 1000000) (hpn : p.n < 1000000) (hpb : p.b.length ≤ 60000) (hz : p.n = 0 → p.b = []) (ho : d.other ≤ p.o) (hf : p.r = d.own → p.c + 1 ≤ (lifeD d p.o).first + d.l.length) :
    Calls Try.prog 8 #[lnk g, .slice B p.enc.length cb] w (RecvRes col k w g (recvD d p) (recvM d p)) := by
  obtain ⟨po, pr, pc, pn, pb⟩ := p
  dsimp only at hpo hpr hpc hpn hpb hz ho hf
  obtain ⟨nums, hnm⟩ : ∃ q, [po, pr, pc, pn] = q := ⟨_, rfl⟩
  have hnl : nums.length = 4 := by rw [← hnm]; rfl
  obtain ⟨P, hP⟩ : ∃ q, pre nums ++ pb = q := ⟨_, rfl⟩
  have hPl : P.length = 32 + pb.length := by rw [← hP, List.length_append, pre_len, hnl]
  have hat : ∀ K, K < 4 → ∃ v, nums[K]? = some v ∧ v < 1000000 ∧ readU ((P.drop (8 * K)).take 8) = v := fun K hK => by
    obtain ⟨v, h1⟩ : ∃ v, nums[K]? = some v := ⟨_, List.getElem?_eq_getElem (by omega)⟩
    have h2 : v < 1000000 := by
      have h3 := List.mem_of_getElem? h1
      rw [← hnm] at h3
      simp only [List.mem_cons, List.not_mem_nil, or_false] at h3
      rcases h3 with h3 | h3 | h3 | h3 <;> omega
    exact ⟨_, h1, h2, by rw [← hP]; exact readU_at pb h1 (by omega)⟩
  have hen : Pk.enc ⟨po, pr, pc, pn, pb⟩ = framed P := by
    unfold Pk.enc pktB
    rw [← hP, ← hnm]
    simp [pre]
  have hop0 := opened_framed P (by omega)
  rw [hen] at hr hbc ⊢
  have hFl : (framed P).length = 8 + P.length := framed_len P
  obtain ⟨F, hF⟩ : ∃ q, framed P = q := ⟨_, rfl⟩
  rw [hF] at hr hbc hop0 hFl ⊢
  have hop := open_walk hr hbc (by omega)
  rw [hop0] at hop
  have n0 : nums[0]? = some po := by rw [← hnm]; rfl
  have n1 : nums[1]? = some pr := by rw [← hnm]; rfl
  have n2 : nums[2]? = some pc := by rw [← hnm]; rfl
  have n3 : nums[3]? = some pn := by rw [← hnm]; rfl
  obtain ⟨M, hM⟩ : ∃ q, P.length = q := ⟨_, rfl⟩
  have hM32 : 32 ≤ M := by omega
  have hMl : M ≤ 60032 := by omega
  have hPdrop : P.drop 32 = pb := by
    rw [← hP, show (32 : Nat) = (pre nums).length from by rw [pre_len, hnl]]
    exact List.drop_left
  rw [hFl, hM] at hop ⊢
  have hz3 : pn = 0 → M = 32 := fun e => by rw [← hM, hPl, hz e]; rfl
  replace hop := Lib.hid hop
  replace hat := Lib.hid hat
  replace hPl := Lib.hid hPl
  replace hPdrop := Lib.hid hPdrop
  replace hM := Lib.hid hM
  replace n0 := Lib.hid n0
  replace n1 := Lib.hid n1
  replace n2 := Lib.hid n2
  replace n3 := Lib.hid n3
  replace h := Lib.hid h
  replace hd := Lib.hid hd
  clear hnm hnl hP hen hop0 hr hbc hF hFl
  unfold lnk
  go_enter Try.func8, Try.ntmps8
  go_wp2_with fail
  refine hop.out.mono ?_
  clear hop
  rintro e w1 ⟨A1, c1, rfl, ho1, hb1, hg1⟩
  dsimp only at ho1 ⊢
  rw [hM.out] at ho1 ⊢
  have hc1 := ho1.le_cap
  obtain ⟨c1', hc1'⟩ : ∃ v, c1 = v := ⟨_, rfl⟩
  rw [hc1'] at ho1 hc1 ⊢
  obtain ⟨q, cur, rfl, hq, -⟩ := ho1.open_ (by omega)
  have hq0 : col q = 0 := hc q (hg1 q rfl)
  have hql := hq.lt
  have hs1 := hb1.size
  obtain ⟨w2, hw2⟩ : ∃ v, v = w1.alloc (.cells #[.int .u64 0, .int .u64 0, .int .u64 0, .int .u64 0] 52) := ⟨_, rfl⟩
  have hb12 : Below w1.heap.size w1 w2 := by rw [hw2]; exact (Below.refl _ _).alloc (Nat.le_refl _) _
  have hx2 : Blk w2 w1.heap.size 52 #[.int .u64 0, .int .u64 0, .int .u64 0, .int .u64 0] := by rw [hw2]; exact Blk.new w1 _ _
  obtain ⟨y, hy⟩ : ∃ y, w1.heap.size = y := ⟨_, rfl⟩
  rw [hy] at hx2
  have hb02 := below_then hb12 hb1
  have ho2 := ho1.below hb12 (Nat.le_refl _)
  have hqy : q ≠ y := by omega
  have hr2 := ho2.reads_
  rw [← hM.out] at hr2
  replace ho2 := Lib.hid ho2
  replace hr2 := Lib.hid hr2
  replace hw2 := Lib.hid hw2
  clear hq ho1
  go_upto_region 5 with (fail)
  rw [← hw2.out]
  try rw [hy]
  clear hw2
  go_wp2_with fail
  go_loopw [30] (fun z wr => ∃ (K : Nat) (X : Array Value), K ≤ 4 ∧ z = .int .i64 (K : Int) ∧ Blk wr y 52 X ∧ X.size = 4 ∧ (∀ j v, j < K → nums[j]? = some v → X[j]? = some (Value.int .u64 (v : Int))) ∧ Upd (fun x => x = y) w2 wr) (fun z _ => 4 - (intOf z).toNat)
  case atStart => exact ⟨0, _, by decide, rfl, hx2, rfl, fun j v hj => by omega, Upd.refl _ _⟩
  case round =>
    obtain ⟨K, X, hK4, rfl, hX, hXs, hXv, hU⟩ := hrel
    by_cases hlt : K < 4
    · obtain ⟨v, hv1, hv2, hv3⟩ := hat.out K hlt
      have hdk : decide ((K : Int) < 4) = true := decide_eq_true (by omega)
      have hkw : IntKind.i64.wrap ((K : Int) + 1) = (K : Int) + 1 := by rw [IntKind.wrap_i64]; omega
      have hkm : IntKind.i64.wrap (8 * (K : Int)) = 8 * (K : Int) := by rw [IntKind.wrap_i64]; omega
      have hqr : Reads wr wr.heap.size 1 (some ⟨q, 0, none⟩) P.length (bys P) := by
        refine ⟨hr2.out.1, fun hn => ?_⟩
        obtain ⟨ad, e, hlt2, hcl⟩ := hr2.out.2 hn
        cases e
        refine ⟨_, rfl, Nat.lt_of_lt_of_le hlt2 hU.size, fun j u hj => ?_⟩
        rw [← hcl j u hj]
        exact World.cell?_of_block (by rw [block_of_add]; exact hU.block _ hlt2 (fun e => hqy e))
      have hcut := hqr.cut (k := 8 * K) (cap := P.length) (by rw [hM.out]; omega) (Nat.le_refl _)
      rw [if_neg (by rw [hM.out]; omega), Nat.mul_one, bys_drop] at hcut
      simp only [Option.map_some, add_off, Nat.zero_add] at hcut
      have hdl : (P.drop (8 * K)).length = M - 8 * K := by rw [List.length_drop, hM.out]
      rw [show P.length - 8 * K = (P.drop (8 * K)).length from by rw [List.length_drop]] at hcut
      have hrd := fun c (hcc : M - 8 * K ≤ c) => wire_read (k := 8) (c := c) hcut (by decide) (by rw [hdl]; omega) (by rw [hdl]; exact hcc) (by rw [hdl]; omega)
      rw [hv3, hdl] at hrd
      have hyf := hX.frozen K
      have hyc : wr.cell? ⟨y, K, none⟩ = some (X[K]'(by omega)) := by rw [hX.cell]; exact Array.getElem?_eq_getElem _
      replace hrd := Lib.hid hrd
      clear hcut hqr hdl
      go_wp2_with fail
      refine (hrd.out _ (by omega)).mono ?_
      clear hrd
      rintro e w3 ⟨rfl, hb3⟩
      dsimp only
      have hX3 := hX.below hb3 hX.lt
      have hyf := hX3.frozen K
      have hyc : w3.cell? ⟨y, K, none⟩ = some (X[K]'(by omega)) := by rw [hX3.cell]; exact Array.getElem?_eq_getElem _
      have hend : Blk (w3.setCell ⟨y, K, none⟩ (.int .u64 (v : Int))) y 52 (X.setIfInBounds K (.int .u64 (v : Int))) ∧ Upd (fun x => x = y) w2 (w3.setCell ⟨y, K, none⟩ (.int .u64 (v : Int))) := ⟨hX3.set_ K _, ((hU.trans (Upd.of_below_size (S := fun x => x = y) hb3) (fun _ _ e => e)).setCell (p := ⟨y, K, none⟩) (fun _ => rfl) _)⟩
      replace hend := Lib.hid hend
      replace hv1 := Lib.hid hv1
      clear hX3 hX hU hv3
      go_wp2_with fail
      go_roundw
      case rel =>
        refine ⟨K + 1, _, by omega, by simp, hend.out.1, by simpa using hXs, fun j u hj hu => ?_, hend.out.2⟩
        rw [Array.getElem?_setIfInBounds]
        rcases Nat.lt_or_ge j K with h' | h'
        · rw [if_neg (by omega)]; exact hXv j u h' hu
        · have hjk : j = K := by omega
          subst hjk
          rw [hv1.out] at hu
          cases hu
          rw [if_pos rfl, if_pos (by omega)]
      case measure => simp [intOf]; omega
    · have hk' : K = 4 := by omega
      subst hk'
      have x0 := hXv 0 _ (by decide) n0.out
      have x1 := hXv 1 _ (by decide) n1.out
      have x2 := hXv 2 _ (by decide) n2.out
      have x3 := hXv 3 _ (by decide) n3.out
      have hyl := hX.lt
      have hq1 : Reads wr wr.heap.size 1 (some ⟨q, 0, none⟩) P.length (bys P) := by
        refine ⟨hr2.out.1, fun hn => ?_⟩
        obtain ⟨ad, e, hlt2, hcl⟩ := hr2.out.2 hn
        cases e
        refine ⟨_, rfl, Nat.lt_of_lt_of_le hlt2 hU.size, fun j u hj => ?_⟩
        rw [← hcl j u hj]
        exact World.cell?_of_block (by rw [block_of_add]; exact hU.block _ hlt2 (fun e => hqy e))
      have hb0r : Below w.heap.size w wr := hb02.trans (hU.below hb02.size (fun x hx e => by omega))
      have hs0 : Stp col k w col wr := Stp.below hc hb0r
      obtain ⟨A, c, xs, X0⟩ := h.out
      have XL := X0.keep (Stp.below (k := k + 1) hc hb0r) (by omega) (by omega)
      have hk0 := XL.k0
      have hy0 : col y = 0 := hc y (by omega)
      have hcr := hs0.cx
      have hFP : FrB col wr (some ⟨q, 0, none⟩) P := ⟨hq1, fun _ z hz => by cases hz; exact hq0⟩
      have hxk : ∀ (col' : Nat → Nat) (W : World), Stp col k wr col' W → ∀ j : Nat, W.cell? ⟨y, j, none⟩ = X[j]? := fun col' W hs j => (hX.upd hs.upd (fun e => by omega)).cell j
      clear hXv hXs hX hU hb02 hb12 hr2 ho2 hb1 hg1 hat n0 n1 n2 n3 X0 hx2 hb0r hq1
      replace hs0 := Lib.hid hs0
      replace hFP := Lib.hid hFP
      -- the mark: something came
      obtain ⟨own, other, l, first, came, heard, ticks⟩ := d
      have c5 := XL.c5
      have f5 := XL.blk.frozen 5
      obtain ⟨X1, hs1⟩ := XL.put (d' := ⟨own, other, l, first, came, true, ticks⟩) (i := 5) (v := .bool true) hcr rfl rfl
      have e3 : wr.cell? ⟨y, 3, none⟩ = some (.int .u64 (pn : Int)) := by rw [hxk col wr (Stp.refl hcr) 3]; exact x3
      obtain ⟨w5, hw5⟩ : ∃ v, v = wr.setCell ⟨g, 5, none⟩ (.bool true) := ⟨_, rfl⟩
      rw [← hw5] at X1 hs1
      have d32 : decide (32 < (M : Int)) = true ∨ M = 32 := by
        rcases Nat.lt_or_ge 32 M with h' | h'
        · exact .inl (decide_eq_true (by omega))
        · exact .inr (by omega)
      replace XL := Lib.hid XL
      replace X1 := Lib.hid X1
      replace hs1 := Lib.hid hs1
      replace hw5 := Lib.hid hw5
      replace hxk := Lib.hid hxk
      replace hz3 := Lib.hid hz3
      go_upto_region 10 with (fail)
      go_cut [51] from 44 to 51 (fun x51 wx => x51 = .bool false ∧ wr = wx)
      case first =>
        by_cases hp0 : pn = 0
        · have hM2 := hz3.out hp0
          subst hp0
          subst hM2
          go_wp2_with fail
          go_meet
          exact ⟨rfl, rfl⟩
        · have hpb : ((pn : Int) == 0) = false := by rw [beq_eq_false_iff_ne]; omega
          clear d32
          go_wp2_with fail
          go_meet
          exact ⟨rfl, rfl⟩
      case rest =>
        obtain ⟨rfl, rfl⟩ := hcut
        go_upto_block 2 with (fail)
        rw [← hw5.out]
        have hL5 : ∀ m, LinkX col k (w5.drewN m) g ⟨own, other, l, first, came, true, ticks⟩ A c xs := fun m => X1.out.below hs1.out.cx (below_drewN (Below.refl _ _) m)
        have hS5 : ∀ m, Stp col k wr col (w5.drewN m) := fun m => hs1.out.trans (Stp.below hs1.out.cx (below_drewN (Below.refl _ _) m))
        have y0 : w5.cell? ⟨y, 0, none⟩ = some (.int .u64 (po : Int)) := by rw [hxk.out col w5 hs1.out 0]; exact x0
        have c1 := X1.out.c1
        have dlt : decide ((po : Int) < (other : Int)) = false := decide_eq_false (by dsimp only at ho; omega)
        have hlt' : ¬ (po : Int) < (other : Int) := by dsimp only at ho; omega
        clear hw5
        go_cut [] from 55 to 83 (fun wx => ∃ col', Stp col k wr col' wx ∧ LinkC col' k wx g (lifeD ⟨own, other, l, first, came, heard, ticks⟩ po))
        case first =>
          by_cases hgt : other < po
          · have hlf : lifeD ⟨own, other, l, first, came, heard, ticks⟩ po = ⟨own, po, l.map (fun m => (m.1, true)), 1, 0, true, ticks⟩ := by unfold lifeD; exact if_pos hgt
            have dg : decide ((other : Int) < (po : Int)) = true := decide_eq_true (by omega)
            have hgt' : (other : Int) < (po : Int) := by omega
            have f1 := X1.out.blk.frozen 1
            have f3 := X1.out.blk.frozen 3
            have f4 := X1.out.blk.frozen 4
            have c3 := X1.out.c3
            have c4 := X1.out.c4
            have hgy : g ≠ y := fun e => by have h1 := X1.out.cg; rw [e] at h1; omega
            go_upto_region 17 with (go_quiet (fail))
            have hX6 : ∀ m, LinkX col k ((((w5.drewN m).setCell ⟨g, 1, none⟩ (.int .u64 (po : Int))).setCell ⟨g, 4, none⟩ (.int .u64 0)).setCell ⟨g, 3, none⟩ (.int .u64 1)) g ⟨own, po, l, 1, 0, true, ticks⟩ A c xs ∧ Stp col k wr col ((((w5.drewN m).setCell ⟨g, 1, none⟩ (.int .u64 (po : Int))).setCell ⟨g, 4, none⟩ (.int .u64 0)).setCell ⟨g, 3, none⟩ (.int .u64 1)) := fun m => by
              have hu : Upd (fun z => z = g) (w5.drewN m) ((((w5.drewN m).setCell ⟨g, 1, none⟩ (.int .u64 (po : Int))).setCell ⟨g, 4, none⟩ (.int .u64 0)).setCell ⟨g, 3, none⟩ (.int .u64 1)) := (((Upd.refl (fun z => z = g) (w5.drewN m)).setCell (p := ⟨g, 1, none⟩) (fun _ => rfl) _).setCell (p := ⟨g, 4, none⟩) (fun _ => rfl) _).setCell (p := ⟨g, 3, none⟩) (fun _ => rfl) _
              have hb := (((hL5 m).blk.set_ 1 (.int .u64 (po : Int))).set_ 4 (.int .u64 0)).set_ 3 (.int .u64 1)
              obtain ⟨q1, q2⟩ := (hL5 m).turn (d' := ⟨own, po, l, 1, 0, true, ticks⟩) hu (fun z hz => (hS5 m).cx z (Nat.le_trans hu.size hz)) hb rfl
              exact ⟨q1, (hS5 m).trans q2⟩
            have han := fun m => lk_anew (k := k) (g := g) (d := ⟨own, po, l, 1, 0, true, ticks⟩) (hX6 m).2.cx ⟨A, c, xs, (hX6 m).1⟩ hd.out.l
            go_wp2_with fail
            refine (han _).mono ?_
            rintro e w6 ⟨rfl, col6, hs6, hL6⟩
            unfold nil_
            go_wp2_with fail
            go_meet
            exact ⟨col6, (hX6 _).2.trans hs6, by rw [hlf]; exact hL6⟩
          · have hlf : lifeD ⟨own, other, l, first, came, heard, ticks⟩ po = ⟨own, other, l, first, came, true, ticks⟩ := by unfold lifeD; exact if_neg hgt
            have dg : decide ((other : Int) < (po : Int)) = false := decide_eq_false (by omega)
            have hgt' : ¬ (other : Int) < (po : Int) := by omega
            go_wp2_with (go_quiet (fail))
            go_meet
            exact ⟨col, hS5 _, by rw [hlf]; exact ⟨A, c, xs, hL5 _⟩⟩
        case rest =>
          obtain ⟨col2, hs2, hL2⟩ := hcut
          have hown := lifeD_own ⟨own, other, l, first, came, heard, ticks⟩ po
          have hdl := lifeD_ok hd.out hpo
          have hfl : pr = own → pc + 1 ≤ (lifeD ⟨own, other, l, first, came, heard, ticks⟩ po).first + (lifeD ⟨own, other, l, first, came, heard, ticks⟩ po).l.length := fun e => by rw [lifeD_len]; exact hf e
          have hmine : mineD ⟨own, other, l, first, came, heard, ticks⟩ ⟨po, pr, pc, pn, pb⟩ = if pr = own then ackedD (lifeD ⟨own, other, l, first, came, heard, ticks⟩ po) pc else lifeD ⟨own, other, l, first, came, heard, ticks⟩ po := rfl
          dsimp only at hown
          clear hL5 hS5 dlt hlt' y0 hf
          generalize lifeD ⟨own, other, l, first, came, heard, ticks⟩ po = D1 at *
          have e1 : wc.cell? ⟨y, 1, none⟩ = some (.int .u64 (pr : Int)) := by rw [hxk.out col2 wc hs2 1]; exact x1
          have c0 : wc.cell? ⟨g, 0, none⟩ = some (.int .u64 (own : Int)) := by
            obtain ⟨A2, c2, xs2, X2⟩ := hL2
            rw [← hown]; exact X2.c0
          replace hdl := Lib.hid hdl
          replace hmine := Lib.hid hmine
          replace hL2 := Lib.hid hL2
          clear c1 e3
          go_upto_if 90 with (go_quiet (fail))
          go_cut [] from 84 to 94 (fun wx => ∃ col', Stp col k wr col' wx ∧ LinkC col' k wx g (mineD ⟨own, other, l, first, came, heard, ticks⟩ ⟨po, pr, pc, pn, pb⟩))
          case first =>
            by_cases hme : pr = own
            · have hmb : ((pr : Int) == (own : Int)) = true := by rw [beq_iff_eq]; omega
              have hb2 : ∀ m, Below wc.heap.size wc (wc.drewN m) := fun m => below_drewN (Below.refl _ _) m
              have e2 : ∀ m, (wc.drewN m).cell? ⟨y, 2, none⟩ = some (.int .u64 (pc : Int)) := fun m => by rw [hxk.out col2 _ (hs2.trans (Stp.below hs2.cx (hb2 m))) 2]; exact x2
              have hac := fun m => lk_acked (n := pc) (hs2.cx.below (hb2 m)) (hL2.out.below hs2.cx (hb2 m)) hdl.out hpc (hfl hme)
              go_wp2_with fail
              refine (hac _).mono ?_
              rintro e w6 ⟨rfl, col6, hs6, hL6⟩
              unfold nil_
              go_wp2_with fail
              go_meet
              exact ⟨col6, (hs2.trans (Stp.below hs2.cx (hb2 _))).trans hs6, by rw [hmine.out, if_pos hme]; exact hL6⟩
            · have hmb : ((pr : Int) == (own : Int)) = false := by rw [beq_eq_false_iff_ne]; omega
              have hb2 : ∀ m, Below wc.heap.size wc (wc.drewN m) := fun m => below_drewN (Below.refl _ _) m
              go_wp2_with fail
              go_meet
              exact ⟨col2, hs2.trans (Stp.below hs2.cx (hb2 _)), by rw [hmine.out, if_neg hme]; exact hL2.out.below hs2.cx (hb2 _)⟩
          case rest =>
            obtain ⟨col3, hs3, hL3⟩ := hcut
            have hcame : (mineD ⟨own, other, l, first, came, heard, ticks⟩ ⟨po, pr, pc, pn, pb⟩).came < 1000000 := by
              rw [hmine.out]
              have := hdl.out.came
              split
              · rw [ackedD_came]; exact this
              · exact this
            have hrv : recvD ⟨own, other, l, first, came, heard, ticks⟩ ⟨po, pr, pc, pn, pb⟩ = if pn ≠ 0 ∧ pn = (mineD ⟨own, other, l, first, came, heard, ticks⟩ ⟨po, pr, pc, pn, pb⟩).came + 1 then { mineD ⟨own, other, l, first, came, heard, ticks⟩ ⟨po, pr, pc, pn, pb⟩ with came := pn } else mineD ⟨own, other, l, first, came, heard, ticks⟩ ⟨po, pr, pc, pn, pb⟩ := rfl
            have hrm : recvM ⟨own, other, l, first, came, heard, ticks⟩ ⟨po, pr, pc, pn, pb⟩ = if pn ≠ 0 ∧ pn = (mineD ⟨own, other, l, first, came, heard, ticks⟩ ⟨po, pr, pc, pn, pb⟩).came + 1 then [pb] else [] := rfl
            generalize mineD ⟨own, other, l, first, came, heard, ticks⟩ ⟨po, pr, pc, pn, pb⟩ = D2 at *
            clear hmine hL2 hdl hfl hown e1 c0 hs2 D1
            obtain ⟨A3, c3, xs3, X3⟩ := hL3
            obtain ⟨down, dother, dl, dfirst, dcame, dheard, dticks⟩ := D2
            dsimp only at hcame hrv hrm
            have c4 := X3.c4
            have f4 := X3.blk.frozen 4
            have e3 : wc.cell? ⟨y, 3, none⟩ = some (.int .u64 (pn : Int)) := by rw [hxk.out col3 wc hs3 3]; exact x3
            have hcw : IntKind.u64.wrap ((dcame : Int) + 1) = (dcame : Int) + 1 := by simp [IntKind.wrap, IntKind.bits, IntKind.signed]; omega
            dsimp only at c4
            have hb3 : ∀ m, Below wc.heap.size wc (wc.drewN m) := fun m => below_drewN (Below.refl _ _) m
            have hs3' : ∀ m, Stp col k w col3 (wc.drewN m) := fun m => (hs0.out.trans hs3).trans (Stp.below hs3.cx (hb3 m))
            have hX3' : ∀ m, LinkX col3 k (wc.drewN m) g ⟨down, dother, dl, dfirst, dcame, dheard, dticks⟩ A3 c3 xs3 := fun m => X3.below hs3.cx (hb3 m)
            by_cases hp0 : pn = 0
            · rw [if_neg (fun e => e.1 hp0)] at hrv hrm
              subst hp0
              replace e3 : wc.cell? ⟨y, 3, none⟩ = some (.int .u64 0) := e3
              replace hrv := Lib.hid hrv
              replace hrm := Lib.hid hrm
              go_wp2_with (go_quiet (fail))
              go_ret2
              exact recv_mk (A := none) (M := 0) (c := 0) hrv.out hrm.out rfl ⟨hs3' _, ⟨A3, c3, xs3, hX3' _⟩, PksC.none_⟩
            · have hpb : ((pn : Int) == 0) = false := by rw [beq_eq_false_iff_ne]; omega
              by_cases hpc1 : pn = dcame + 1
              · have hpe : ((pn : Int) == (dcame : Int) + 1) = true := by rw [beq_iff_eq]; omega
                rw [if_pos ⟨hp0, hpc1⟩] at hrv hrm
                replace hrv := Lib.hid hrv
                replace hrm := Lib.hid hrm
                have hX7 : ∀ m, LinkX col3 k ((wc.drewN m).setCell ⟨g, 4, none⟩ (.int .u64 ((dcame : Int) + 1))) g ⟨down, dother, dl, dfirst, pn, dheard, dticks⟩ A3 c3 xs3 ∧ Stp col3 k wc col3 ((wc.drewN m).setCell ⟨g, 4, none⟩ (.int .u64 ((dcame : Int) + 1))) := fun m => by
                  have hz := (hX3' m).put (d' := ⟨down, dother, dl, dfirst, pn, dheard, dticks⟩) (i := 4) (v := .int .u64 ((dcame : Int) + 1)) (hs3' m).cx rfl (by rw [hpc1]; rfl)
                  exact ⟨hz.1, (Stp.below hs3.cx (hb3 m)).trans hz.2⟩
                have hFB : ∀ m, FrB col3 ((wc.drewN m).setCell ⟨g, 4, none⟩ (.int .u64 ((dcame : Int) + 1))) (some ⟨q, 32, none⟩) pb := fun m => (hFP.out.keep (hs3.trans (hX7 m).2) hk0).tail hPl.out hPdrop.out
                obtain ⟨N2, hN2⟩ : ∃ v, M - 32 = v := ⟨_, rfl⟩
                have hpbN : pb.length = N2 := by have := hPl.out; have := hM.out; omega
                have hcle : N2 ≤ c1' - 32 := by omega
                replace hpc1 := Lib.hid hpc1
                replace hX7 := Lib.hid hX7
                replace hFB := Lib.hid hFB
                replace hs3' := Lib.hid hs3'
                replace hpbN := Lib.hid hpbN
                clear hX3'
                go_upto_region 22 with (go_quiet (fail))
                go_wp2_with fail
                all_goals
                 go_ret2
                 first
                 | (have hrow := fun m => body_row (n := N2) (cc := 0) (b := pb) rfl (hX7.out m).2.cx (FrB.nil (A := some ⟨q, 0, none⟩) (by have := hpbN.out; omega)) hpbN.out (by omega) (y := wc.heap.size) (by simp [World.setCell])
                    exact recv_mk (A := some ⟨wc.heap.size, 0, none⟩) (M := 1) (c := 1) hrv.out hrm.out rfl ⟨((hs0.out.trans hs3).trans (hX7.out _).2).trans (Stp.below (hX7.out _).2.cx (hrow _).2), ⟨A3, c3, xs3, (hX7.out _).1.below (hX7.out _).2.cx (hrow _).2⟩, (hrow _).1⟩)
                 | (have hrow := fun m => body_row (n := N2) (cc := c1' - 32) (b := pb) rfl (hX7.out m).2.cx (hFB.out m) hpbN.out (by omega) (y := wc.heap.size) (by simp [World.setCell])
                    exact recv_mk (A := some ⟨wc.heap.size, 0, none⟩) (M := 1) (c := 1) hrv.out hrm.out rfl ⟨((hs0.out.trans hs3).trans (hX7.out _).2).trans (Stp.below (hX7.out _).2.cx (hrow _).2), ⟨A3, c3, xs3, (hX7.out _).1.below (hX7.out _).2.cx (hrow _).2⟩, (hrow _).1⟩)
              · have hpe : ((pn : Int) == (dcame : Int) + 1) = false := by rw [beq_eq_false_iff_ne]; omega
                rw [if_neg (fun e => hpc1 e.2)] at hrv hrm
                replace hrv := Lib.hid hrv
                replace hrm := Lib.hid hrm
                go_wp2_with (go_quiet (fail))
                go_ret2
                exact recv_mk (A := none) (M := 0) (c := 0) hrv.out hrm.out rfl ⟨hs3' _, ⟨A3, c3, xs3, hX3' _⟩, PksC.none_⟩
end Go.Proofs.Ytflgmphghmkciaa
