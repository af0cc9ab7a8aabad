/- References: which may be; ref.right, choirref23.RightRef. -/
import Derived.Test.YtdnoafjaheofcaaDoorRows
import Derived.Test.YtdnoafjaheofcaaDoorRegion
import Derived.Test.YtdnoafjaheofcaaDoorFrame
import Derived.Test.YtdnoafjaheofcaaDoorMore
import Derived.Test.YtdnoafjaheofcaaDoorReadText
import Derived.BigQuiet
import Derived.Deep.CutRange
set_option linter.unusedSimpArgs false
set_option linter.unusedVariables false
namespace Go.Proofs.YtdnoafjaheofcaaDoor
set_option maxRecDepth 100000
open Go.RowKit

def ints (ns : List Int) : List Value := ns.map (Value.int .i64)
theorem ints_len (ns : List Int) : (ints ns).length = ns.length := by simp [ints]
/-- The i-th node may stand there. -/
def okAt (ns : List Int) (i : Nat) : Prop := 0 ≤ ns.getD i 0 ∧ ns.getD i 0 ≤ 255 ∧ (0 < i → ns.getD (i - 1) 0 < ns.getD i 0)
instance (ns : List Int) (i : Nat) : Decidable (okAt ns i) := by unfold okAt; exact inferInstance
def rightB (g : List UInt8) (ns : List Int) : Bool := decide (1 ≤ g.length ∧ g.length ≤ 32 ∧ 1 ≤ ns.length ∧ ns.length ≤ 7 ∧ ∀ i, i < ns.length → okAt ns i)
theorem right_yes {g : List UInt8} {ns : List Int} (h : rightB g ns = true) : 1 ≤ g.length ∧ g.length ≤ 32 ∧ 1 ≤ ns.length ∧ ns.length ≤ 7 ∧ ∀ i, i < ns.length → okAt ns i := of_decide_eq_true h
theorem right_mk {g : List UInt8} {ns : List Int} (h1 : 1 ≤ g.length) (h2 : g.length ≤ 32) (h3 : 1 ≤ ns.length) (h4 : ns.length ≤ 7) (h5 : ∀ i, i < ns.length → okAt ns i) : rightB g ns = true := decide_eq_true ⟨h1, h2, h3, h4, h5⟩
theorem right_no_len {g : List UInt8} {ns : List Int} (h : ¬ (1 ≤ g.length ∧ g.length ≤ 32 ∧ 1 ≤ ns.length ∧ ns.length ≤ 7)) : rightB g ns = false := decide_eq_false fun hh => h ⟨hh.1, hh.2.1, hh.2.2.1, hh.2.2.2.1⟩
theorem right_no_at {g : List UInt8} {ns : List Int} {i : Nat} (hi : i < ns.length) (h : ¬ okAt ns i) : rightB g ns = false := decide_eq_false fun hh => h (hh.2.2.2.2 i hi)

/-- The cell of a node. -/
theorem node_at {w : World} {B : Nat} {A : Option Addr} {ns : List Int} (h : Reads w B 1 A ns.length (ints ns)) {k : Nat} (hk : k < ns.length) : ∃ ad, A = some ad ∧ ad.block < B ∧ w.cell? (ad.add k) = some (.int .i64 (ns.getD k 0)) := by
  obtain ⟨ad, u, rfl, hb, hu, hc⟩ := h.at_ hk
  refine ⟨ad, rfl, hb, hc.trans ?_⟩
  rw [← hu]
  simp [ints, List.getD, List.getElem?_eq_getElem hk]

def BoolRes (w : World) (b : Bool) (e : Ending) (w' : World) : Prop := e = .returned (.bool b) ∧ Below w.heap.size w w'

set_option maxHeartbeats 1600000 in
theorem right_walk {g : List UInt8} {v : Int} {A : Option Addr} {c : Nat} {ns : List Int} {w : World} (h : Reads w w.heap.size 1 A ns.length (ints ns)) (hg : g.length ≤ 140737488351232) (hn : ns.length ≤ 140737488351232) :
    Calls Tryd.prog 18 #[.agg #[.string (bstr g), .int .u32 v, .slice A ns.length c]] w (BoolRes w (rightB g ns)) := by
  have hgs : (bstr g).size = g.length := bstr_size g
  have hb0 := (Below.refl w.heap.size w).alloc (Nat.le_refl _) (.cells #[.string (bstr g), .int .u32 v, .slice A ns.length c] 26)
  have hy := Blk.new w 26 #[.string (bstr g), .int .u32 v, .slice A ns.length c]
  have h1 := (h.alloc (Nat.le_refl _) (.cells #[.string (bstr g), .int .u32 v, .slice A ns.length c] 26))
  by_cases hlen : 1 ≤ g.length ∧ g.length ≤ 32 ∧ 1 ≤ ns.length ∧ ns.length ≤ 7
  · obtain ⟨l1, l2, l3, l4⟩ := hlen
    obtain ⟨r, hr⟩ : ∃ r, rightB g ns = r := ⟨_, rfl⟩
    rw [hr]
    replace hr := Lib.hid hr
    have d1 : decide ((g.length : Int) < 1) = false := decide_eq_false (by omega)
    have d2 : decide ((32 : Int) < (g.length : Int)) = false := decide_eq_false (by omega)
    have d3 : decide ((ns.length : Int) < 1) = false := decide_eq_false (by omega)
    have d4 : decide ((7 : Int) < (ns.length : Int)) = false := decide_eq_false (by omega)
    go_enter Tryd.func18, Tryd.ntmps18
    go_upto_region 4 with (fail)
    generalize w.alloc (.cells #[.string (bstr g), .int .u32 v, .slice A ns.length c] 26) = w1 at *
    have c2 := hy.cell 2
    replace hgs := Lib.hid hgs
    go_loop [30] (fun i => ∃ k : Nat, k ≤ ns.length ∧ i = .int .i64 (k : Int) ∧ Hid (∀ j, j < k → okAt ns j)) (fun i => ns.length - (intOf i).toNat)
    case atStart => exact ⟨0, Nat.zero_le _, rfl, Lib.hid fun j hj => absurd hj (by omega)⟩
    case round =>
      rename_i hrel
      obtain ⟨k, hk, rfl, hok⟩ := hrel
      by_cases hlt : k < ns.length
      · obtain ⟨ad, rfl, hbk, hcell⟩ := node_at h1 hlt
        obtain ⟨x, hx⟩ : ∃ x, ns.getD k 0 = x := ⟨_, rfl⟩
        rw [hx] at hcell
        replace hx := Lib.hid hx
        by_cases hx0 : x < 0
        · have hno : r = false := by rw [← hr.out]; exact right_no_at hlt fun hh => by have := hh.1; rw [hx.out] at this; omega
          subst hno
          clear hr
          go_wp2_with fail
          go_ret
          exact ⟨rfl, hb0⟩
        by_cases hx1 : 255 < x
        · have hno : r = false := by rw [← hr.out]; exact right_no_at hlt fun hh => by have := hh.2.1; rw [hx.out] at this; omega
          subst hno
          clear hr
          go_wp2_with fail
          go_ret
          exact ⟨rfl, hb0⟩
        by_cases hk0 : 0 < k
        · obtain ⟨ad', e', hbk', hcell'⟩ := node_at h1 (show k - 1 < ns.length by omega)
          obtain rfl : ad = ad' := Option.some.inj e'
          obtain ⟨y, hy'⟩ : ∃ y, ns.getD (k - 1) 0 = y := ⟨_, rfl⟩
          rw [hy'] at hcell'
          replace hy' := Lib.hid hy'
          have hkd : decide ((0 : Int) < (k : Int)) = true := decide_eq_true (by omega)
          have hks : ((k : Int) - 1) = ((k - 1 : Nat) : Int) := by omega
          by_cases hxy : x ≤ y
          · have hno : r = false := by rw [← hr.out]; exact right_no_at hlt fun hh => by have := hh.2.2 hk0; rw [hx.out, hy'.out] at this; omega
            subst hno
            clear hr
            go_wp2_with fail
            go_ret
            exact ⟨rfl, hb0⟩
          · have hok' : Hid (∀ j, j < k + 1 → okAt ns j) := Lib.hid fun j hj => by
              by_cases hjk : j < k
              · exact hok.out j hjk
              obtain rfl : j = k := by omega
              exact ⟨by rw [hx.out]; omega, by rw [hx.out]; omega, fun h => by rw [hx.out, hy'.out]; omega⟩
            go_wp2_with fail
            go_round
            case rel => exact ⟨k + 1, by omega, by go_num, hok'⟩
            case measure => simp [intOf]; omega
        · have hok' : Hid (∀ j, j < k + 1 → okAt ns j) := Lib.hid fun j hj => by
            obtain rfl : j = k := by omega
            exact ⟨by rw [hx.out]; omega, by rw [hx.out]; omega, fun h => absurd h hk0⟩
          have hkd : decide ((0 : Int) < (k : Int)) = false := decide_eq_false (by omega)
          go_wp2_with fail
          go_round
          case rel => exact ⟨k + 1, by omega, by go_num, hok'⟩
          case measure => simp [intOf]; omega
      · obtain rfl : k = ns.length := by omega
        have hyes : r = true := by rw [← hr.out]; exact right_mk l1 l2 l3 l4 hok.out
        subst hyes
        clear hr
        go_wp2_with fail
        go_ret
        exact ⟨rfl, hb0⟩
  · rw [right_no_len hlen]
    go_enter Tryd.func18, Tryd.ntmps18
    by_cases l1 : 1 ≤ g.length
    · by_cases l2 : g.length ≤ 32
      · by_cases l3 : 1 ≤ ns.length
        · have l4 : 7 < ns.length := by omega
          go_wp2_with fail
          go_ret
          exact ⟨rfl, hb0⟩
        · have l3' : ns.length < 1 := by omega
          go_wp2_with fail
          go_ret
          exact ⟨rfl, hb0⟩
      · have l2' : 32 < g.length := by omega
        go_wp2_with fail
        go_ret
        exact ⟨rfl, hb0⟩
    · have l1' : g.length < 1 := by omega
      go_wp2_with fail
      go_ret
      exact ⟨rfl, hb0⟩

set_option maxHeartbeats 3200000 in
theorem ref_right {g : List UInt8} {v : Int} {A : Option Addr} {c : Nat} {ns : List Int} {w : World} (h : Reads w w.heap.size 1 A ns.length (ints ns)) (hg : g.length ≤ 140737488351232) (hn : ns.length ≤ 140737488351232) :
    Calls Tryd.prog 22 #[.agg #[.string (bstr g), .int .u32 v, .slice A ns.length c]] w (BoolRes w (rightB g ns)) := by
  have hgs : (bstr g).size = g.length := bstr_size g
  have hb0 := (Below.refl w.heap.size w).alloc (Nat.le_refl _) (.cells #[.string (bstr g), .int .u32 v, .slice A ns.length c] 36)
  have hy := Blk.new w 36 #[.string (bstr g), .int .u32 v, .slice A ns.length c]
  have h1 := (h.alloc (Nat.le_refl _) (.cells #[.string (bstr g), .int .u32 v, .slice A ns.length c] 36))
  by_cases hlen : 1 ≤ g.length ∧ g.length ≤ 32 ∧ 1 ≤ ns.length ∧ ns.length ≤ 7
  · obtain ⟨l1, l2, l3, l4⟩ := hlen
    obtain ⟨r, hr⟩ : ∃ r, rightB g ns = r := ⟨_, rfl⟩
    rw [hr]
    replace hr := Lib.hid hr
    have d1 : decide ((g.length : Int) < 1) = false := decide_eq_false (by omega)
    have d2 : decide ((32 : Int) < (g.length : Int)) = false := decide_eq_false (by omega)
    have d3 : decide ((ns.length : Int) < 1) = false := decide_eq_false (by omega)
    have d4 : decide ((7 : Int) < (ns.length : Int)) = false := decide_eq_false (by omega)
    go_enter Tryd.func22, Tryd.ntmps22
    go_upto_region 3 with (fail)
    generalize w.alloc (.cells #[.string (bstr g), .int .u32 v, .slice A ns.length c] 36) = w1 at *
    obtain ⟨y0, ey0⟩ : ∃ y, w.heap.size = y := ⟨_, rfl⟩
    rw [ey0] at hy h1
    rw [ey0]
    replace ey0 := Lib.hid ey0
    replace hgs := Lib.hid hgs
    go_wp2_with fail
    go_loopw [3] (fun i wr => ∃ k : Nat, k ≤ ns.length ∧ i = .int .i64 (k : Int) ∧ Hid (∀ j, j < k → okAt ns j) ∧ Below w1.heap.size w1 wr) (fun i _ => ns.length - (intOf i).toNat)
    case atStart => exact ⟨0, Nat.zero_le _, rfl, Lib.hid fun j hj => absurd hj (by omega), Below.refl _ _⟩
    case round =>
      rename_i hrel
      obtain ⟨k, hk, rfl, hok, hbr⟩ := hrel
      have hyr := hy.below hbr hy.lt
      have c2 := hyr.cell 2
      have hbw : Below w.heap.size w wr := below_then hbr hb0
      have h2 := h1.below (hbr.mono (by have := hy.lt; rw [← ey0.out] at *; omega))
      by_cases hlt : k < ns.length
      · obtain ⟨ad, rfl, hbk, hcell⟩ := node_at h2 hlt
        obtain ⟨x, hx⟩ : ∃ x, ns.getD k 0 = x := ⟨_, rfl⟩
        rw [hx] at hcell
        replace hx := Lib.hid hx
        have hltd : decide ((k : Int) < (ns.length : Int)) = true := decide_eq_true (by omega)
        by_cases hx0 : x < 0
        · have hno : r = false := by rw [← hr.out]; exact right_no_at hlt fun hh => by have := hh.1; rw [hx.out] at this; omega
          subst hno
          clear hr
          have e0 : decide (x < 0) = true := decide_eq_true hx0
          go_wp2_with fail
          go_quiet (fail)
          go_wp2_with fail
          go_ret
          exact ⟨rfl, below_drewN hbw _⟩
        have e0 : decide (x < 0) = false := decide_eq_false hx0
        by_cases hx1 : 255 < x
        · have hno : r = false := by rw [← hr.out]; exact right_no_at hlt fun hh => by have := hh.2.1; rw [hx.out] at this; omega
          subst hno
          clear hr
          have e1 : decide (255 < x) = true := decide_eq_true hx1
          go_wp2_with fail
          go_quiet (fail)
          go_wp2_with fail
          go_ret
          exact ⟨rfl, below_drewN hbw _⟩
        have e1 : decide (255 < x) = false := decide_eq_false hx1
        by_cases hk0 : 0 < k
        · obtain ⟨ad', e', hbk', hcell'⟩ := node_at h2 (show k - 1 < ns.length by omega)
          obtain rfl : ad = ad' := Option.some.inj e'
          obtain ⟨y, hy'⟩ : ∃ y, ns.getD (k - 1) 0 = y := ⟨_, rfl⟩
          rw [hy'] at hcell'
          replace hy' := Lib.hid hy'
          have hkd : decide ((0 : Int) < (k : Int)) = true := decide_eq_true (by omega)
          have hks : IntKind.i64.wrap ((k : Int) - 1) = ((k - 1 : Nat) : Int) := by rw [IntKind.wrap_i64]; omega
          by_cases hxy : x ≤ y
          · have hno : r = false := by rw [← hr.out]; exact right_no_at hlt fun hh => by have := hh.2.2 hk0; rw [hx.out, hy'.out] at this; omega
            subst hno
            clear hr
            have e2 : decide (x ≤ y) = true := decide_eq_true hxy
            go_wp2_with fail
            go_quiet (fail)
            go_wp2_with fail
            go_ret
            exact ⟨rfl, below_drewN hbw _⟩
          · have hok' : Hid (∀ j, j < k + 1 → okAt ns j) := Lib.hid fun j hj => by
              by_cases hjk : j < k
              · exact hok.out j hjk
              obtain rfl : j = k := by omega
              exact ⟨by rw [hx.out]; omega, by rw [hx.out]; omega, fun h => by rw [hx.out, hy'.out]; omega⟩
            have e2 : decide (x ≤ y) = false := decide_eq_false hxy
            go_wp2_with fail
            go_quiet (fail)
            go_wp2_with fail
            go_roundw
            case rel => exact ⟨k + 1, by omega, by go_num, hok', below_drewN hbr _⟩
            case measure => simp [intOf]; omega
        · have hok' : Hid (∀ j, j < k + 1 → okAt ns j) := Lib.hid fun j hj => by
            obtain rfl : j = k := by omega
            exact ⟨by rw [hx.out]; omega, by rw [hx.out]; omega, fun h => absurd h hk0⟩
          have hkd : decide ((0 : Int) < (k : Int)) = false := decide_eq_false (by omega)
          go_wp2_with fail
          go_quiet (fail)
          go_wp2_with fail
          go_roundw
          case rel => exact ⟨k + 1, by omega, by go_num, hok', below_drewN hbr _⟩
          case measure => simp [intOf]; omega
      · obtain rfl : k = ns.length := by omega
        have hyes : r = true := by rw [← hr.out]; exact right_mk l1 l2 l3 l4 hok.out
        subst hyes
        clear hr
        go_wp2_with fail
        go_ret
        exact ⟨rfl, hbw⟩
  · rw [right_no_len hlen]
    go_enter Tryd.func22, Tryd.ntmps22
    by_cases l1 : 1 ≤ g.length
    · by_cases l2 : g.length ≤ 32
      · by_cases l3 : 1 ≤ ns.length
        · have l4 : 7 < ns.length := by omega
          go_wp2_with fail
          go_ret
          exact ⟨rfl, hb0⟩
        · have l3' : ns.length < 1 := by omega
          go_wp2_with fail
          go_ret
          exact ⟨rfl, hb0⟩
      · have l2' : 32 < g.length := by omega
        go_wp2_with fail
        go_ret
        exact ⟨rfl, hb0⟩
    · have l1' : g.length < 1 := by omega
      go_wp2_with fail
      go_ret
      exact ⟨rfl, hb0⟩
end Go.Proofs.YtdnoafjaheofcaaDoor
