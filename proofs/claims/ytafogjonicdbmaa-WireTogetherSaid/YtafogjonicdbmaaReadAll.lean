/- wire's reader at any bytes. -/
import Derived.Test.YtafogjonicdbmaaReadListNo
namespace Go.Proofs.Ytafogjonicdbmaa
open Go.RowKit

set_option maxHeartbeats 1600000 in
theorem value_text_end {ad : Addr} {c B r at_ : Nat} {deep : Int} {b : List UInt8} {w : World} (h : RdAt w r (some ad) b.length c at_ deep) (hr : Reads w B 1 (some ad) b.length (bys b)) (hB : B ≤ r) (hc : b.length ≤ c) (hl : b.length ≤ 1000000000)
    (hat : at_ + 1 ≤ b.length) (hv1 : readU ((b.drop at_).take 1) = 3) (hs : b.length = at_ + 1) :
    Calls Try.prog 35 #[.pointer (some ⟨r, 0, none⟩)] w (fun e w' => e = .panicked shortP ∧ Upd (fun x => x = r) w w') := by
  have hrl : r < w.heap.size := h.lt
  have hsf := fun a k x m w => run_store_float (P := Try.prog) a k x m w
  replace hv1 := Lib.hid hv1
  replace hs := Lib.hid hs
  go_enter Try.func35, Try.ntmps35
  go_wp2_with fail
  refine (number_ok (k := 1) (Blk.alloc h _) (hr.alloc (by omega) _) hB hc hl (by omega) (by omega) (by omega) 3 hv1.out).mono ?_
  rintro e w1 ⟨rfl, h1, hu1⟩
  dsimp only
  have hz1 : Blk w1 w.heap.size 26 #[.int .i64 0, .int .i64 0, .float .f64 0, .string ⟨#[]⟩, .slice none 0 0] := (Blk.new w _ _).upd hu1 (by omega)
  have hwl1 : w.heap.size < w1.heap.size := hz1.lt
  have hr1 := (hr.alloc (by omega) (.cells #[.int .i64 0, .int .i64 0, .float .f64 0, .string ⟨#[]⟩, .slice none 0 0] 26)).upd hu1 (by omega) (by simp; omega)
  have hu := ((Upd.refl (fun x => x = r) w).alloc (.cells #[.int .i64 0, .int .i64 0, .float .f64 0, .string ⟨#[]⟩, .slice none 0 0] 26)).trans hu1 (fun _ _ h => h)
  have hz2 := hz1.alloc (.cells #[.int .i64 3, .int .i64 0, .float .f64 0, .string ⟨#[]⟩, .slice none 0 0] 26)
  have hy2 := Blk.new w1 26 #[.int .i64 3, .int .i64 0, .float .f64 0, .string ⟨#[]⟩, .slice none 0 0]
  have h2 := Blk.alloc h1 (.cells #[.int .i64 3, .int .i64 0, .float .f64 0, .string ⟨#[]⟩, .slice none 0 0] 26)
  have hu2 := hu.alloc (.cells #[.int .i64 3, .int .i64 0, .float .f64 0, .string ⟨#[]⟩, .slice none 0 0] 26)
  have hr2 := hr1.alloc (by omega) (.cells #[.int .i64 3, .int .i64 0, .float .f64 0, .string ⟨#[]⟩, .slice none 0 0] 26)
  have hs2 : (w1.alloc (.cells #[.int .i64 3, .int .i64 0, .float .f64 0, .string ⟨#[]⟩, .slice none 0 0] 26)).heap.size = w1.heap.size + 1 := by simp
  clear hz1 hr1 hu h1 hu1
  go_wp2_with fail
  generalize w1.alloc (.cells #[.int .i64 3, .int .i64 0, .float .f64 0, .string ⟨#[]⟩, .slice none 0 0] 26) = w2 at *
  generalize w1.heap.size = y at *
  rw [hs.out] at h2 hc hl
  obtain ⟨a1, ha1⟩ : ∃ a1, at_ + 1 = a1 := ⟨_, rfl⟩
  have hcast : ((at_ + 1 : Nat) : Int) = (a1 : Int) := by omega
  rw [ha1] at h2 hc hl
  have hS : w2.drew.cell? ⟨r, 0, none⟩ = some (.slice (some ad) a1 c) ∧ w2.drew.cell? ⟨r, 1, none⟩ = some (.int .i64 (a1 : Int)) ∧ Below w2.heap.size w2 w2.drew := ⟨Blk.cell h2 0, Blk.cell h2 1, (Below.refl _ _).drew⟩
  clear ha1 hcast hr hr2 hv1 hat hs
  have hmc : a1 ≤ c := hc
  refine wp_region_lex (fun W => W.cell? ⟨r, 0, none⟩ = some (.slice (some ad) a1 c) ∧ W.cell? ⟨r, 1, none⟩ = some (.int .i64 (a1 : Int)) ∧ Below w2.heap.size w2 W) [3, 7] [9] [0, 1, 2, 3, 4, 5, 6, 7, 8, 9, 10, 11, 12, 13, 14, 15, 16] (by kernel_rfl) rfl (by kernel_rfl) (by kernel_rfl) (fun _ _ d _ _ h => by cases d <;> exact h) ?_
  repeat (first | (refine lexG_take _ ?_ rfl rfl rfl rfl (fun _ => ?_) ?_; rotate_left; (focus (go_simp; with_reducible rfl)); try simp only [Act.put, List.setIfInBounds_toArray, List.set_cons_zero, List.set_cons_succ]) | (refine lexG_held _ ?_ rfl rfl rfl rfl (by assumption) (fun _ hSw => ?_) ?_; rotate_left; (focus ((try dsimp only at hSw); go_simp; with_reducible rfl)); try simp only [Act.put, List.setIfInBounds_toArray, List.set_cons_zero, List.set_cons_succ]) | (refine lexG_skip _ rfl rfl (by assumption) ?_; try simp only [Act.put, List.setIfInBounds_toArray, List.set_cons_zero, List.set_cons_succ]))
  refine lexG_now _ rfl rfl rfl (fun K hK => ?_)
  go_wp2_with fail
  all_goals
    have hrt : r < w2.heap.size := Blk.lt h2
    refine (read_text (b := []) (t := ([], 0, 20)) ⟨by simp [bys], by simp⟩ (by simp) (by simp) (by decide)).mono ?_
    rintro e w3 ⟨rfl, hb3⟩
    dsimp only
    have hS3 : w3.cell? ⟨r, 0, none⟩ = some (.slice (some ad) a1 c) ∧ w3.cell? ⟨r, 1, none⟩ = some (.int .i64 (a1 : Int)) ∧ Below w2.heap.size w2 w3 := ⟨(hb3.cell (by show r < _; simpa using hrt)).trans hS.1, (hb3.cell (by show r < _; simpa using hrt)).trans hS.2.1, below_then hb3 hS.2.2⟩
    refine hK _ _ _ (fun _ h => h) hS3 ?_
    clear hK K hb3
    try simp only [Act.put, List.setIfInBounds_toArray, List.set_cons_zero, List.set_cons_succ]
    repeat (first | (refine lexG_take _ ?_ rfl rfl rfl rfl (fun _ => ?_) ?_; rotate_left; (focus (go_simp; with_reducible rfl)); try simp only [Act.put, List.setIfInBounds_toArray, List.set_cons_zero, List.set_cons_succ]) | (refine lexG_held _ ?_ rfl rfl rfl rfl (by assumption) (fun _ hSw => ?_) ?_; rotate_left; (focus ((try dsimp only at hSw); go_simp; with_reducible rfl)); try simp only [Act.put, List.setIfInBounds_toArray, List.set_cons_zero, List.set_cons_succ]) | (refine lexG_skip _ rfl rfl (by assumption) ?_; try simp only [Act.put, List.setIfInBounds_toArray, List.set_cons_zero, List.set_cons_succ]))
    refine lexG_nil ?_
    have hu3 := hu2.thenBelow hS3.2.2 hu2.size
    clear h2 hz2 hy2 hu2
    go_wp2_with fail
    refine (must_no w3).mono ?_
    rintro e w4 ⟨rfl, rfl⟩
    dsimp only
    go_wp2_with fail
    exact ⟨rfl, rfl, hu3⟩

theorem pv_cons (d : Nat) (k : UInt8) (t : List UInt8) : pv d (k :: t) =
    if k.toNat = 0 then some (.mk 0 0 0 [] [], 1)
    else if k.toNat = 1 then (if t.length < 8 then none else some (.mk 1 (wrap64 (readU (t.take 8))) 0 [] [], 9))
    else if k.toNat = 2 then (if t.length < 8 then none else if cb (readU (t.take 8)) = readU (t.take 8) then some (.mk 2 0 (readU (t.take 8)) [] [], 9) else none)
    else if k.toNat = 3 then (if (readT t 256).2.2 = 0 then some (.mk 3 0 0 (readT t 256).1 [], 1 + (readT t 256).2.1) else none)
    else if k.toNat = 4 then
      match d, t with
      | 0, _ => none
      | _ + 1, [] => none
      | d + 1, n :: u => if 64 < n.toNat then none else match pl (pv d) n.toNat u with
        | none => none
        | some (l, m) => some (.mk 4 0 0 [] l, 2 + m)
    else none := by
  cases d with
  | zero => rfl
  | succ d =>
    rw [pv.eq_def]
    cases t <;> rfl

theorem readU_one (k : UInt8) : readU [k] = k.toNat := by simp [readU]
theorem readT_e (b : List UInt8) (m : Int) : (readT b m).2.2 = 0 ∨ (readT b m).2.2 = 20 := by
  unfold readT
  split
  · exact .inl rfl
  · exact .inr rfl
theorem readT_n (b : List UInt8) : (readT b 256).2.1 ≤ 1000 := by
  unfold readT
  split
  · rename_i h
    show 2 + _ ≤ _
    omega
  · show 0 ≤ _
    omega

set_option maxHeartbeats 800000 in
theorem value_all {r : Nat} {ad : Addr} {c B : Nat} {b : List UInt8} (hB : B ≤ r) (hc : b.length ≤ c) (hl : b.length ≤ 1000000000) : ∀ (d : Nat), d ≤ 100 → ∀ (w : World) (at_ : Nat), RdAt w r (some ad) b.length c at_ (d : Int) → Reads w B 1 (some ad) b.length (bys b) → at_ ≤ b.length →
    Calls Try.prog 35 #[.pointer (some ⟨r, 0, none⟩)] w (PRes w r ad b.length c at_ (d : Int) (pv d (b.drop at_))) := by
  intro d
  induction d with
  | zero =>
    intro hd w at_ h hr hat
    cases hb : b.drop at_ with
    | nil =>
      have hal : at_ = b.length := by have := congrArg List.length hb; simp at this; omega
      exact (value_end h hc hl hal).mono fun e w' hh => by simpa [pv, PRes] using hh
    | cons k t =>
      have ht : b.drop (at_ + 1) = t := by rw [← List.drop_drop, hb]; rfl
      have hbl : b.length = at_ + 1 + t.length := by have := congrArg List.length hb; simp at this; omega
      have hv : readU ((b.drop at_).take 1) = k.toNat := by rw [hb]; exact readU_one k
      by_cases k0 : k.toNat = 0
      · have e : pv 0 (k :: t) = some (.mk 0 0 0 [] [], 1) := by simp [pv, k0]
        rw [e]
        refine (value_nil h hr hB hc hl (by omega) (by rw [hv, k0])).mono ?_
        rintro e w' ⟨rfl, h1, h2⟩
        exact ⟨_, rfl, VOwn.flat _ _ _ _ _ _, h1, h2⟩
      by_cases k1 : k.toNat = 1
      · by_cases ht8 : t.length < 8
        · have e : pv 0 (k :: t) = none := by simp [pv, k1, ht8]
          rw [e]
          exact value_num_no h hr hB hc hl (by omega) 1 (by rw [hv, k1]) (.inl rfl) (by omega)
        · have e : pv 0 (k :: t) = some (.mk 1 (wrap64 (readU (t.take 8))) 0 [] [], 9) := by simp only [pv, k1]; simp [ht8]
          rw [e]
          refine (value_int h hr hB hc hl (by omega) (by rw [hv, k1]) (readU (t.take 8)) (by rw [ht])).mono ?_
          rintro e w' ⟨rfl, h1, h2⟩
          exact ⟨_, rfl, VOwn.flat _ _ _ _ _ _, h1, h2⟩
      by_cases k2 : k.toNat = 2
      · by_cases ht8 : t.length < 8
        · have e : pv 0 (k :: t) = none := by simp [pv, k2, ht8]
          rw [e]
          exact value_num_no h hr hB hc hl (by omega) 2 (by rw [hv, k2]) (.inr rfl) (by omega)
        · by_cases hcb : cb (readU (t.take 8)) = readU (t.take 8)
          · have e : pv 0 (k :: t) = some (.mk 2 0 (readU (t.take 8)) [] [], 9) := by simp only [pv, k2]; simp [ht8, hcb]
            rw [e]
            refine (value_float h hr hB hc hl (by omega) (by rw [hv, k2]) (readU (t.take 8)) (by rw [ht]) hcb).mono ?_
            rintro e w' ⟨rfl, h1, h2⟩
            exact ⟨_, rfl, VOwn.flat _ _ _ _ _ _, h1, h2⟩
          · have e : pv 0 (k :: t) = none := by simp only [pv, k2]; simp [ht8, hcb]
            rw [e]
            exact value_float_no h hr hB hc hl (by omega) (by rw [hv, k2]) (readU (t.take 8)) (by rw [ht]) hcb
      by_cases k3 : k.toNat = 3
      · have e : pv 0 (k :: t) = if (readT t 256).2.2 = 0 then some (.mk 3 0 0 (readT t 256).1 [], 1 + (readT t 256).2.1) else none := by simp only [pv, k3]; simp
        rw [e]
        by_cases htl : t = []
        · subst htl
          exact value_text_end h hr hB hc hl (by omega) (by rw [hv, k3]) (by simpa using hbl)
        · have : 0 < t.length := List.length_pos_iff.2 htl
          exact value_text h hr hB hc hl (by omega) (by rw [hv, k3]) (readT t 256) (by rw [ht]) _ rfl (readT_e t 256) (readT_n t)
      by_cases k4 : k.toNat = 4
      rotate_left
      · have e : pv 0 (k :: t) = none := by simp [pv, k0, k1, k2, k3, k4]
        rw [e]
        exact value_bad h hr hB hc hl (by omega) k.toNat hv (by omega) k.toNat_lt
      · have h4 : k.toNat = 4 := by assumption
        have e : pv 0 (k :: t) = none := by simp [pv, h4]
        rw [e]
        exact value_list_deep h hr hB hc hl (by omega) (by omega) (by rw [hv, h4]) (by omega)
  | succ d IH =>
    intro hd w at_ h hr hat
    cases hb : b.drop at_ with
    | nil =>
      have hal : at_ = b.length := by have := congrArg List.length hb; simp at this; omega
      exact (value_end h hc hl hal).mono fun e w' hh => by simpa [pv, PRes] using hh
    | cons k t =>
      have ht : b.drop (at_ + 1) = t := by rw [← List.drop_drop, hb]; rfl
      have hbl : b.length = at_ + 1 + t.length := by have := congrArg List.length hb; simp at this; omega
      have hv : readU ((b.drop at_).take 1) = k.toNat := by rw [hb]; exact readU_one k
      by_cases k0 : k.toNat = 0
      · have e : pv (d + 1) (k :: t) = some (.mk 0 0 0 [] [], 1) := by rw [pv_cons]; simp [k0]
        rw [e]
        refine (value_nil h hr hB hc hl (by omega) (by rw [hv, k0])).mono ?_
        rintro e w' ⟨rfl, h1, h2⟩
        exact ⟨_, rfl, VOwn.flat _ _ _ _ _ _, h1, h2⟩
      by_cases k1 : k.toNat = 1
      · by_cases ht8 : t.length < 8
        · have e : pv (d + 1) (k :: t) = none := by rw [pv_cons]; simp [k1, ht8]
          rw [e]
          exact value_num_no h hr hB hc hl (by omega) 1 (by rw [hv, k1]) (.inl rfl) (by omega)
        · have e : pv (d + 1) (k :: t) = some (.mk 1 (wrap64 (readU (t.take 8))) 0 [] [], 9) := by rw [pv_cons]; simp [k1, ht8]
          rw [e]
          refine (value_int h hr hB hc hl (by omega) (by rw [hv, k1]) (readU (t.take 8)) (by rw [ht])).mono ?_
          rintro e w' ⟨rfl, h1, h2⟩
          exact ⟨_, rfl, VOwn.flat _ _ _ _ _ _, h1, h2⟩
      by_cases k2 : k.toNat = 2
      · by_cases ht8 : t.length < 8
        · have e : pv (d + 1) (k :: t) = none := by rw [pv_cons]; simp [k2, ht8]
          rw [e]
          exact value_num_no h hr hB hc hl (by omega) 2 (by rw [hv, k2]) (.inr rfl) (by omega)
        · by_cases hcb : cb (readU (t.take 8)) = readU (t.take 8)
          · have e : pv (d + 1) (k :: t) = some (.mk 2 0 (readU (t.take 8)) [] [], 9) := by rw [pv_cons]; simp [k2, ht8, hcb]
            rw [e]
            refine (value_float h hr hB hc hl (by omega) (by rw [hv, k2]) (readU (t.take 8)) (by rw [ht]) hcb).mono ?_
            rintro e w' ⟨rfl, h1, h2⟩
            exact ⟨_, rfl, VOwn.flat _ _ _ _ _ _, h1, h2⟩
          · have e : pv (d + 1) (k :: t) = none := by rw [pv_cons]; simp [k2, ht8, hcb]
            rw [e]
            exact value_float_no h hr hB hc hl (by omega) (by rw [hv, k2]) (readU (t.take 8)) (by rw [ht]) hcb
      by_cases k3 : k.toNat = 3
      · have e : pv (d + 1) (k :: t) = if (readT t 256).2.2 = 0 then some (.mk 3 0 0 (readT t 256).1 [], 1 + (readT t 256).2.1) else none := by rw [pv_cons]; simp [k3]
        rw [e]
        by_cases htl : t = []
        · subst htl
          exact value_text_end h hr hB hc hl (by omega) (by rw [hv, k3]) (by simpa using hbl)
        · have : 0 < t.length := List.length_pos_iff.2 htl
          exact value_text h hr hB hc hl (by omega) (by rw [hv, k3]) (readT t 256) (by rw [ht]) _ rfl (readT_e t 256) (readT_n t)
      by_cases k4 : k.toNat = 4
      rotate_left
      · have e : pv (d + 1) (k :: t) = none := by rw [pv_cons]; simp [k0, k1, k2, k3, k4]
        rw [e]
        exact value_bad h hr hB hc hl (by omega) k.toNat hv (by omega) k.toNat_lt
      · have h4 : k.toNat = 4 := by assumption
        have hde : ((d + 1 : Nat) : Int) = (d : Int) + 1 := by omega
        cases t with
        | nil =>
          have e : pv (d + 1) [k] = none := by rw [pv_cons]; simp [h4]
          rw [e]
          exact value_list_short h hr hB hc hl (by omega) (by omega) (by rw [hv, h4]) (by omega) (by simpa using hbl)
        | cons n u =>
          have hn : readU ((b.drop (at_ + 1)).take 1) = n.toNat := by rw [ht]; exact readU_one n
          simp only [List.length_cons] at hbl
          by_cases hn64 : 64 < n.toNat
          · have e : pv (d + 1) (k :: n :: u) = none := by rw [pv_cons]; simp [h4, hn64]
            rw [e]
            exact value_list_many h hr hB hc hl (by omega) (by omega) (by rw [hv, h4]) (by omega) (by omega) n.toNat hn hn64
          · have hu : b.drop (at_ + 2) = u := by
              have : b.drop (at_ + 1 + 1) = u := by rw [← List.drop_drop, ht]; rfl
              exact this
            have e : pv (d + 1) (k :: n :: u) = (pl (pv d) n.toNat (b.drop (at_ + 2))).map (fun x => (.mk 4 0 0 [] x.1, 2 + x.2)) := by
              rw [hu]
              rw [pv_cons]
              simp only [h4]
              simp only [Nat.reduceEqDiff, if_false, if_true, if_neg hn64]
              cases pl (pv d) n.toNat u <;> rfl
            rw [hde] at h ⊢
            exact value_list (fun w at_ h1 h2 h3 => IH (by omega) w at_ h1 h2 h3) h hr hB hc hl (by omega) (by omega) (by rw [hv, h4]) n.toNat hn (by omega) _ e
end Go.Proofs.Ytafogjonicdbmaa
