/- References: ref.unhexed. -/
import Derived.Test.YtdnoafjaheofcaaDoorRf11
set_option linter.unusedSimpArgs false
set_option linter.unusedVariables false
namespace Go.Proofs.YtdnoafjaheofcaaDoor
open Go.RowKit Go.Sort Go.Lib
set_option maxRecDepth 100000

theorem p16_le (a b : UInt8) : (p16 [a, b]).getD 0 ≤ 255 := by
  have e : p16 [a, b] = (dig a).bind fun x => (dig b).map fun d => x * 16 + d := by
    cases ha : dig a <;> simp [p16, ha]
  rw [e]
  cases ha : dig a with
  | none => simp
  | some x =>
    cases hb : dig b with
    | none => simp
    | some y =>
      have := dig_lt ha
      have := dig_lt hb
      simp
      omega
def unhexL : List UInt8 → List UInt8
  | a :: b :: r => UInt8.ofNat ((p16 [a, b]).getD 0) :: unhexL r
  | _ => []
theorem unhex_hex (g : List UInt8) : unhexL (hexL g) = g := by
  induction g with
  | nil => rfl
  | cons c g ih =>
    have e : hexL (c :: g) = hexD (c.toNat / 16) :: hexD (c.toNat % 16) :: hexL g := by simp [hexL, hexC]
    have hc := c.toNat_lt
    have hp := p16_hex ⟨c.toNat / 16, by omega⟩ ⟨c.toNat % 16, by omega⟩
    dsimp only at hp
    rw [e, unhexL, hp, ih, Option.getD_some]
    congr 1
    apply UInt8.toNat_inj.1
    rw [UInt8.toNat_ofNat']
    omega
theorem unhexL_len : ∀ l : List UInt8, (unhexL l).length ≤ l.length
  | [] => by simp [unhexL]
  | [a] => by simp [unhexL]
  | a :: b :: r => by
    have := unhexL_len r
    simp only [unhexL, List.length_cons]
    omega

theorem hex_pub (a b : UInt8) (w : World) (hL : LaidW w) : Calls Tryd.prog 34 #[.string (bstr [a, b]), .int .i64 16, .int .i64 8] w (fun e w' => (∃ ev, e = .returned (.tuple #[.int .u64 ((p16 [a, b]).getD 0 : Nat), ev])) ∧ RowKit.Below w.heap.size w w') := by
  have hin := hex_inner [a, b] (by simp) (by simp) w
  obtain ⟨R, hR⟩ : ∃ R, p16 [a, b] = R := ⟨_, rfl⟩
  rw [hR] at hin ⊢
  clear hR
  replace hin := Lib.hid hin
  obtain ⟨tp, p, hv⟩ := hL.syn
  have hcell : w.cell? ⟨1, 0, none⟩ = some (.iface tp p) := by have h0 := World.var?_cell g_syn hv 0; simpa using h0
  go_enter Tryd.func34, Tryd.ntmps34
  go_wp2_with fail
  refine hin.out.mono ?_
  clear hin
  rintro e w1 ⟨hh, hb⟩
  rcases hh with ⟨n, rfl, rfl⟩ | ⟨rfl, rfl⟩
  · dsimp only
    go_wp2_with fail
    go_ret2
    exact ⟨⟨_, rfl⟩, hb⟩
  · dsimp only
    have hlt : 1 < w.heap.size := Lib.lt_of_cell hcell
    have hc1 : w1.cell? ⟨1, 0, none⟩ = some (.iface tp p) := (hb.cell (p := ⟨1, 0, none⟩) hlt).trans hcell
    have hte := Tryd.strconv_toError_syntax ⟨#[80, 97, 114, 115, 101, 85, 105, 110, 116]⟩ (bstr [a, b]) 16 8 (.iface tp p) w1 (by rw [bstr_size]; simp) hc1 (.inr ⟨tp, p, rfl⟩)
    replace hte := Lib.hid hte
    clear hc1 hcell hv
    go_wp2_with fail
    refine hte.out.mono ?_
    rintro e w2 ⟨N, rfl, -, -, hb2⟩
    dsimp only
    go_wp2_with fail
    go_ret2
    exact ⟨⟨_, rfl⟩, below_then hb2 hb⟩

def strSize : Value → Nat
  | .string t => t.size
  | _ => 0
theorem strSize_bstr (l : List UInt8) : strSize (.string (bstr l)) = l.length := bstr_size l
set_option maxHeartbeats 1600000 in
theorem unhexed_walk (l : List UInt8) (hl : l.length ≤ 1000000) (w : World) (hL : LaidW w) : Calls Tryd.prog 35 #[.string (bstr l)] w (fun e w' => e = .returned (.string (bstr (unhexL l))) ∧ RowKit.Below w.heap.size w w') := by
  obtain ⟨i0, hi, hz0, hz1, hz2⟩ := info_parts info_u8
  obtain ⟨U, hU⟩ : ∃ U, unhexL l = U := ⟨_, rfl⟩
  rw [hU]
  replace hi := Lib.hid hi
  replace hz0 := Lib.hid hz0
  replace hz1 := Lib.hid hz1
  replace hz2 := Lib.hid hz2
  replace hL := Lib.hid hL
  go_enter Tryd.func35, Tryd.ntmps35
  go_wp2_with fail
  go_loopw [0, 3, 4, 5] (fun s b x4 x5 wr => ∃ (rest X : List UInt8) (A' : Option Addr) (c' : Nat), rest.length ≤ l.length ∧ s = .string (bstr rest) ∧ b = .slice A' X.length c' ∧ Hid (X ++ unhexL rest = U) ∧ X.length + rest.length ≤ l.length ∧ Own wr 5 1 A' X.length c' (bys X) ∧ RowKit.Below w.heap.size w wr ∧ (∀ q, bOf A' = some q → w.heap.size ≤ q)) (fun s _ _ _ _ => strSize s)
  case atStart => exact ⟨l, [], none, 0, Nat.le_refl _, rfl, rfl, Lib.hid hU, by simp, Own.none_, RowKit.Below.refl _ _, fun _ h => by cases h⟩
  case round =>
    rename_i hrel
    obtain ⟨rest, X, A', c', hrl, rfl, rfl, hX, hXl, ho, hb, hg⟩ := hrel
    match rest, hrl, hX, hXl with
    | a :: b :: r, hrl, hX, hXl =>
      obtain ⟨n, hn⟩ : ∃ n, (p16 [a, b]).getD 0 = n := ⟨_, rfl⟩
      have hnl : n ≤ 255 := by rw [← hn]; exact p16_le a b
      have hp := hex_pub a b wr (hL.out.next hb)
      rw [hn] at hp
      have hXn : Hid (X ++ [UInt8.ofNat n] ++ unhexL r = U) := Lib.hid (by have := hX.out; rw [unhexL, hn] at this; rw [← this]; simp)
      replace hp := Lib.hid hp
      have wn : IntKind.u8.wrap (n : Int) = (n : Int) := by unfold IntKind.wrap; simp [IntKind.bits, IntKind.signed]; omega
      have wn2 : (n : Int) % 256 = (n : Int) := by omega
      have hbyte : Hid ((#[Value.int .u8 (n : Int)] : Array Value).toList = bys [UInt8.ofNat n]) := Lib.hid (by simp [bys, byv]; omega)
      clear hn
      simp only [List.length_cons] at hXl hrl
      go_wp2_with fail
      refine hp.out.mono ?_
      clear hp
      rintro e w2 ⟨⟨ev, rfl⟩, hb2⟩
      dsimp only
      have ho2 := ho.below hb2 (Nat.le_refl _)
      have hbb := below_then hb2 hb
      go_wp2_with (at_builtin; go_must (refine wpList_append_mine rfl _ _ 22 22 rfl 5 i0 (.int .u8 0) 1 1 Tryd.underlying22 hi.out hz0.out hz1.out hz2.out rfl rfl (ho2.alloc _) rfl (Src.ofReads Tryd.underlying22 _ (Reads.lit _ _ _ _ 1 _ hbyte.out rfl) (bys_one _)) ?b1 ?b2 ?grow))
      case b1 => unfold maxLen; omega
      case b2 => omega
      case grow =>
        intro A2 c2 w3 hown hgr hat
        go_wp2_with fail
        go_roundw
        case rel =>
          refine ⟨r, X ++ [UInt8.ofNat n], A2, c2, by omega, rfl, by simp, hXn, by simp; omega, by simpa [bys_append] using hown, (hbb.alloc hbb.size _).grown hgr (Nat.le_trans hbb.size (by simp)) hg, fun q hq => ?_⟩
          rcases hat with h7 | h7 <;> rw [h7] at hq
          · exact hg q hq
          · have := hbb.size; simp at hq; omega
        case measure => rw [strSize_bstr, strSize_bstr]; simp; omega
    | [a], hrl, hX, hXl =>
      have hXe : X = U := by have := hX.out; simpa [unhexL] using this
      subst hXe
      have hcv := conv_bytes (n := X.length) (c := c') ho.reads_
      go_wp2_with fail
      go_ret
      exact ⟨rfl, hb⟩
    | [], hrl, hX, hXl =>
      have hXe : X = U := by have := hX.out; simpa [unhexL] using this
      subst hXe
      have hcv := conv_bytes (n := X.length) (c := c') ho.reads_
      go_wp2_with fail
      go_ret
      exact ⟨rfl, hb⟩
end Go.Proofs.YtdnoafjaheofcaaDoor
