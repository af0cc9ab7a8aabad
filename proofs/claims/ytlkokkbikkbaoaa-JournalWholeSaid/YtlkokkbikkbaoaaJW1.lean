/- JournalWhole, the plain law: records that were written are all recovered. -/
import Derived.Test.YtlkokkbikkbaoaaJPl2
import Derived.Test.YtlkokkbikkbaoaaRec
import Derived.Test.YtlkokkbikkbaoaaSt8
set_option linter.unusedSimpArgs false
set_option linter.unusedVariables false
set_option linter.unusedSimpArgs false
set_option linter.unusedVariables false
namespace Go.Proofs.Ytlkokkbikkbaoaa
open Go.RowKit
set_option maxRecDepth 100000

theorem OpOk.clean {o : OpD} (h : OpOk o) : cleanO o = o := by
  obtain ⟨c, s, n, g, m, l⟩ := o
  have h1 := h.all
  dsimp only at h1
  have : l.map cleanV = l := by
    conv => rhs; rw [← List.map_id l]
    exact List.map_congr_left (fun v hv => (h1 v hv).clean)
  simp [cleanO, this]
theorem OpOk.size {o : OpD} (h : OpOk o) : errL o.l = 0 ∧ (encL o.l).length ≤ 6612 := by
  have key : ∀ l : List Val, (∀ v ∈ l, SeatV 2 1102 v) → errL l = 0 ∧ (encL l).length ≤ l.length * 1102 := by
    intro l
    induction l with
    | nil => intro _; exact ⟨rfl, Nat.zero_le _⟩
    | cons v l ih =>
      intro hl
      obtain ⟨h1, h2⟩ := ih (fun x hx => hl x (List.mem_cons_of_mem _ hx))
      have hv := hl v (List.mem_cons_self ..)
      have hc := hv.check (by decide) (by decide)
      refine ⟨?_, ?_⟩
      · unfold errL; rw [if_neg (by rw [hc]; simp)]; exact h1
      · show (encV v ++ encL l).length ≤ _
        rw [List.length_append, encV_len, List.length_cons]
        have := hv.size
        omega
  obtain ⟨h1, h2⟩ := key o.l h.all
  have := h.len
  exact ⟨h1, by omega⟩
theorem OpOk.err {o : OpD} (h : OpOk o) : errO o = 0 := by
  have h1 := h.size.1
  have := h.len
  have := h.g
  have := h.m
  unfold errO
  rw [if_neg (by omega), if_neg (by omega), if_neg (by omega)]
  exact h1

/-- The records of calls in one view; of a number. -/
def recO (v : Nat) (o : OpD) : RecD := ⟨2, v, 0, o⟩
def recN (k : Int) (n : Nat) : RecD := ⟨k, 0, (n : Int), opz⟩
theorem rd_recO {v : Nat} {o : OpD} (h : OpOk o) (hv : v < 18446744073709551616) : rdRec (bytesP (recO v o)) = some (recO v o) := by
  have hh := rdOp_enc o [] (fun x hx => (h.all x hx).ok) (by have := h.c; omega) (by have := h.s; omega) (by have := h.n; omega) h.err
  rw [List.append_nil] at hh
  have hcl := h.clean
  unfold cleanO at hcl
  rw [hcl] at hh
  unfold bytesP recO
  rw [if_neg (show ¬ (2 : Int) = 1 by decide), if_pos (show (2 : Int) = 2 from rfl)]
  show rdRec1 2 (putU v 8 ++ bytesO o) = _
  unfold rdRec1
  rw [if_neg (by decide), if_pos rfl, if_neg (by simp [putU_len]), List.drop_left' (putU_len _ _), hh]
  dsimp only
  rw [if_pos (by simp [putU_len]), List.take_left' (putU_len _ _), readU_put8 v hv]
theorem rd_recN {k : Int} {n : Nat} (hk : k = 3 ∨ k = 4) (hn : n ≤ 2147483647) : rdRec (bytesP (recN k n)) = some (recN k n) := by
  unfold bytesP recN
  rw [if_neg (by dsimp only; omega), if_neg (by dsimp only; omega)]
  dsimp only
  rw [Int.toNat_natCast]
  have hkn : (UInt8.ofNat k.toNat).toNat = k.toNat := by rcases hk with rfl | rfl <;> rfl
  show rdRec1 (UInt8.ofNat k.toNat).toNat (putU n 4) = _
  unfold rdRec1
  rw [hkn, if_neg (by omega), if_neg (by omega), if_pos (by omega), rdNum_put hn]
  dsimp only
  rw [show ((k.toNat : Nat) : Int) = k by omega]
theorem len_recO {v : Nat} {o : OpD} (h : OpOk o) : (bytesP (recO v o)).length ≤ 7000 := by
  have h1 := h.size.2
  have h2 := h.g
  have h3 := h.m
  unfold bytesP recO
  rw [if_neg (show ¬ (2 : Int) = 1 by decide), if_pos (show (2 : Int) = 2 from rfl)]
  dsimp only
  simp only [List.length_append, putU_len, bytesO_len, List.length_cons, List.length_nil]
  omega
theorem len_recN {k : Int} {n : Nat} (hk : k = 3 ∨ k = 4) : (bytesP (recN k n)).length = 5 := by
  unfold bytesP recN
  rw [if_neg (by dsimp only; omega), if_neg (by dsimp only; omega)]
  simp [putU_len]
theorem err_recO {v : Nat} {o : OpD} (h : OpOk o) : errJ (recO v o) = 0 := by
  have h1 : errP (recO v o) = 0 := by
    unfold errP recO
    dsimp only
    rw [if_neg (by omega), if_pos rfl, h.err]
  unfold errJ
  rw [h1, if_neg (by simp), if_neg (by have := len_recO (v := v) h; omega)]
theorem err_recN {k : Int} {n : Nat} (hk : k = 3 ∨ k = 4) (hn : n ≤ 2147483647) : errJ (recN k n) = 0 := by
  have h1 : errP (recN k n) = 0 := by
    unfold errP recN
    dsimp only
    rw [if_neg (by omega), if_neg (by omega)]
  unfold errJ
  rw [h1, if_neg (by simp), if_neg (by rw [len_recN hk]; omega)]

/-- The bytes of records, one behind another. -/
def allB (rs : List RecD) : List UInt8 := rs.flatMap fun r => framed (bytesP r)
theorem allB_app (a b : List RecD) : allB (a ++ b) = allB a ++ allB b := by simp [allB]
theorem allB_one (r : RecD) : allB [r] = framed (bytesP r) := by simp [allB]
theorem allB_len (rs : List RecD) (h : ∀ r ∈ rs, (bytesP r).length ≤ 7000) : (allB rs).length ≤ rs.length * 7008 := by
  induction rs with
  | nil => simp [allB]
  | cons r rs ih =>
    have h1 := ih (fun x hx => h x (List.mem_cons_of_mem _ hx))
    have h2 := h r (List.mem_cons_self ..)
    unfold allB at h1 ⊢
    rw [List.flatMap_cons, List.length_append, framed_len, List.length_cons]
    omega
def okAll : StD → List RecD → Bool
  | _, [] => true
  | s, r :: rs => stepOk s r && okAll (stepD s r) rs
theorem okAll_app : ∀ (a b : List RecD) (s : StD), okAll s (a ++ b) = (okAll s a && okAll (a.foldl stepD s) b)
  | [], b, s => by simp [okAll]
  | r :: a, b, s => by
    rw [List.cons_append, okAll, okAll, okAll_app a b, List.foldl_cons, Bool.and_assoc]
theorem recF_all : ∀ (rs : List RecD) (pre : List UInt8) (s : StD) (f : Nat), (∀ r ∈ rs, rdRec (bytesP r) = some r ∧ (bytesP r).length ≤ 65536) → okAll s rs = true → (pre ++ allB rs).length < f + pre.length → recF f (pre ++ allB rs) s pre.length = (rs.foldl stepD s, (pre ++ allB rs).length)
  | [], pre, s, f, _, _, _ => by
    have e : allB [] = [] := rfl
    rw [e, List.append_nil, List.foldl_nil]
    cases f with
    | zero => rfl
    | succ f =>
      unfold recF
      rw [List.drop_eq_nil_of_le (Nat.le_refl _), if_pos (by unfold opened; simp)]
  | r :: rs, pre, s, f, hr, hok, hf => by
    obtain ⟨h1, h2⟩ := hr r (List.mem_cons_self ..)
    have e : allB (r :: rs) = framed (bytesP r) ++ allB rs := by simp [allB]
    rw [okAll, Bool.and_eq_true] at hok
    have hlen : (pre ++ allB (r :: rs)).length = pre.length + (8 + (bytesP r).length) + (allB rs).length := by rw [e, List.length_append, List.length_append, framed_len]; omega
    obtain ⟨f, rfl⟩ : ∃ g, f = g + 1 := ⟨f - 1, by omega⟩
    unfold recF
    rw [List.drop_left' rfl, e, opened_framed _ _ h2]
    dsimp only
    rw [if_neg (by simp), h1]
    dsimp only
    rw [if_pos hok.1]
    have ih := recF_all rs (pre ++ framed (bytesP r)) (stepD s r) f (fun x hx => hr x (List.mem_cons_of_mem _ hx)) hok.2 (by
      rw [List.append_assoc, ← e, hlen, List.length_append, framed_len]
      rw [hlen] at hf
      omega)
    rw [List.append_assoc, List.length_append, framed_len] at ih
    rw [ih, List.foldl_cons]
/-- A phase of calls in one view. -/
theorem phase : ∀ (os : List OpD) (v : Nat) (s : StD), (∀ o ∈ os, OpOk o) → 0 < v → lastV s.log ≤ v → s.log.length + os.length ≤ 400 →
    okAll s (os.map (recO v)) = true ∧ (os.map (recO v)).foldl stepD s = ⟨s.v, s.last, s.log ++ os.map (fun o => (v, o)), s.sure⟩
  | [], v, s, _, _, _, _ => by simp [okAll]
  | o :: os, v, s, hok, hv, hl, hn => by
    rw [List.length_cons] at hn
    have h1 : stepOk s (recO v o) = true := by
      unfold stepOk recO
      dsimp only
      rw [if_neg (by decide), if_pos rfl]
      exact decide_eq_true ⟨hv, hl, by omega⟩
    have h2 : stepD s (recO v o) = ⟨s.v, s.last, s.log ++ [(v, o)], s.sure⟩ := by
      unfold stepD
      rw [if_pos h1]
      unfold recO
      dsimp only
      rw [if_neg (by decide), if_pos rfl, (hok o (List.mem_cons_self ..)).clean]
    have ih := phase os v ⟨s.v, s.last, s.log ++ [(v, o)], s.sure⟩ (fun x hx => hok x (List.mem_cons_of_mem _ hx)) hv (by unfold lastV; simp) (by simp; omega)
    rw [List.map_cons, okAll, List.foldl_cons, h1, h2]
    refine ⟨by rw [ih.1]; rfl, ?_⟩
    rw [ih.2]
    simp
/-- All records of the statement. -/
def jwRecs (os : List OpD) (k n : Nat) (more : List OpD) : List RecD := os.map (recO 2) ++ [recN 4 k] ++ [recN 3 n] ++ more.map (recO 5)
theorem lastV_le (l : List (Nat × OpD)) (v : Nat) (h : ∀ x ∈ l, x.1 ≤ v) : lastV l ≤ v := by
  unfold lastV
  split
  · rename_i x hx
    exact h x (List.mem_of_getLast? hx)
  · omega
theorem jw_law {os more : List OpD} {k n : Nat} (h1 : ∀ o ∈ os, OpOk o) (h2 : ∀ o ∈ more, OpOk o) (hk : k ≤ n) (hn : n ≤ os.length) (hl : os.length ≤ 200) (hm : more.length ≤ 100) :
    recD (allB (jwRecs os k n more)) = (⟨0, 0, (os.map (fun o => (2, o))).take n ++ more.map (fun o => (5, o)), (k : Int)⟩, (allB (jwRecs os k n more)).length) := by
  have p1 := phase os 2 st0 h1 (by decide) (by decide) (by show 0 + os.length ≤ 400; omega)
  have e1 : ([] : List (Nat × OpD)) ++ os.map (fun o => (2, o)) = os.map (fun o => (2, o)) := rfl
  have hst : (os.map (recO 2)).foldl stepD st0 = ⟨0, 0, os.map (fun o => (2, o)), 0⟩ := p1.2
  have ok4 : stepOk ⟨0, 0, os.map (fun o => (2, o)), 0⟩ (recN 4 k) = true := by
    unfold stepOk recN
    dsimp only
    rw [if_neg (by decide), if_neg (by decide), if_pos (by decide)]
    exact decide_eq_true ⟨by omega, by rw [List.length_map]; omega⟩
  have st4 : stepD ⟨0, 0, os.map (fun o => (2, o)), 0⟩ (recN 4 k) = ⟨0, 0, os.map (fun o => (2, o)), (k : Int)⟩ := by
    unfold stepD
    rw [if_pos ok4]
    unfold recN
    dsimp only
    rw [if_neg (by decide), if_neg (by decide), if_neg (by decide)]
  have ok3 : stepOk ⟨0, 0, os.map (fun o => (2, o)), (k : Int)⟩ (recN 3 n) = true := by
    unfold stepOk recN
    dsimp only
    rw [if_neg (by decide), if_neg (by decide), if_pos (by decide)]
    exact decide_eq_true ⟨by omega, by rw [List.length_map]; omega⟩
  have st3 : stepD ⟨0, 0, os.map (fun o => (2, o)), (k : Int)⟩ (recN 3 n) = ⟨0, 0, (os.map (fun o => (2, o))).take n, (k : Int)⟩ := by
    unfold stepD
    rw [if_pos ok3]
    unfold recN
    dsimp only
    rw [if_neg (by decide), if_neg (by decide), if_pos rfl, Int.toNat_natCast]
  have p2 := phase more 5 ⟨0, 0, (os.map (fun o => (2, o))).take n, (k : Int)⟩ h2 (by decide) (lastV_le _ _ (fun x hx => by
    obtain ⟨o, -, rfl⟩ := List.mem_map.1 (List.mem_of_mem_take hx)
    show 2 ≤ 5
    decide)) (by simp; omega)
  have hfold : (jwRecs os k n more).foldl stepD st0 = ⟨0, 0, (os.map (fun o => (2, o))).take n ++ more.map (fun o => (5, o)), (k : Int)⟩ := by
    unfold jwRecs
    rw [List.foldl_append, List.foldl_append, List.foldl_append, hst]
    simp only [List.foldl_cons, List.foldl_nil]
    rw [st4, st3, p2.2]
  have hoks : okAll st0 (jwRecs os k n more) = true := by
    unfold jwRecs
    rw [okAll_app, okAll_app, okAll_app]
    simp only [List.foldl_append, hst, List.foldl_cons, List.foldl_nil, okAll, st4, st3, p1.1, p2.1, ok4, ok3, Bool.and_true]
  have hgood : ∀ r ∈ jwRecs os k n more, rdRec (bytesP r) = some r ∧ (bytesP r).length ≤ 65536 := by
    intro r hr
    unfold jwRecs at hr
    simp only [List.mem_append, List.mem_map, List.mem_singleton] at hr
    rcases hr with ((⟨o, ho, rfl⟩ | rfl) | rfl) | ⟨o, ho, rfl⟩
    · exact ⟨rd_recO (h1 o ho) (by decide), by have := len_recO (v := 2) (h1 o ho); omega⟩
    · exact ⟨rd_recN (.inr rfl) (by omega), by rw [len_recN (.inr rfl)]; omega⟩
    · exact ⟨rd_recN (.inl rfl) (by omega), by rw [len_recN (.inl rfl)]; omega⟩
    · exact ⟨rd_recO (h2 o ho) (by decide), by have := len_recO (v := 5) (h2 o ho); omega⟩
  have := recF_all (jwRecs os k n more) [] st0 ((allB (jwRecs os k n more)).length + 1) hgood hoks (by simp)
  rw [List.nil_append, List.length_nil, hfold] at this
  exact this
end Go.Proofs.Ytlkokkbikkbaoaa
