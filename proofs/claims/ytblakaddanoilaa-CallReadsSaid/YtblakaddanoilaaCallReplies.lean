/- CallReplies' walk. -/
import Derived.Test.YtblakaddanoilaaRepSame
namespace Go.Proofs.Ytblakaddanoilaa
open Go.RowKit
set_option maxRecDepth 100000

theorem errR_two {er : Int} {v : Val} (h : errR er v = 0) : (0 ≤ er ∧ er ≤ 65535) ∧ checkV v = 0 := by
  unfold errR at h
  split at h
  · cases h
  · exact ⟨by omega, h⟩

set_option maxHeartbeats 12800000 in
theorem callReplies_walk (D E A : Option Addr) (cd ce m cc c s n : Nat) (er k i : Int) (f : Nat) (t : ByteArray) (b more : List UInt8) (v : Val) (w : World) (hv : VReads w w.heap.size v #[.int .i64 k, .int .i64 i, .float .f64 f, .string t, .slice A m cc]) (hok : OkV v) (hc : c < 4294967296) (hs : s < 4294967296) (hn : n < 65536)
    (h : Reads w w.heap.size 1 D b.length (bys b)) (hcd : b.length ≤ cd) (h2 : Reads w w.heap.size 1 E more.length (bys more)) (hl : b.length ≤ 140737488351232) (hl2 : more.length ≤ 140737488351232) :
    Calls Try.prog 4 #[.slice D b.length cd, .agg #[.int .u32 (c : Int), .int .u32 (s : Int), .int .u16 (n : Int), .int .i64 er, .int .i64 k, .int .i64 i, .float .f64 f, .string t, .slice A m cc], .slice E more.length ce] w (Says w (.bool true)) := by
  obtain ⟨i0, hi, hz0, hz1, hz2⟩ := info_parts info_u8
  have hsf := fun a k x m w => run_store_float (P := Try.prog) a k x m w
  have hS := Blk.new w 45 #[.int .u32 (c : Int), .int .u32 (s : Int), .int .u16 (n : Int), .int .i64 er, .int .i64 k, .int .i64 i, .float .f64 f, .string t, .slice A m cc]
  have hb0 := (Below.refl w.heap.size w).alloc (Nat.le_refl _) (.cells #[.int .u32 (c : Int), .int .u32 (s : Int), .int .u16 (n : Int), .int .i64 er, .int .i64 k, .int .i64 i, .float .f64 f, .string t, .slice A m cc] 45)
  obtain ⟨B, hB⟩ : ∃ B, w.heap.size = B := ⟨_, rfl⟩
  have hS0 := hS
  rw [hB] at hv h h2 hS0
  replace hB := Lib.hid hB
  obtain ⟨N, hN⟩ : ∃ N, b.length = N := ⟨_, rfl⟩
  obtain ⟨M, hM⟩ : ∃ M, more.length = M := ⟨_, rfl⟩
  have hb' := h
  have hm' := h2
  rw [hN] at hb' hl hcd ⊢
  rw [hM] at hm' hl2 ⊢
  replace hN := Lib.hid hN
  replace hM := Lib.hid hM
  replace hS := Lib.hid hS
  replace hb0 := Lib.hid hb0
  replace h := Lib.hid h
  replace h2 := Lib.hid h2
  replace hok := Lib.hid hok
  replace hc := Lib.hid hc
  replace hs := Lib.hid hs
  replace hn := Lib.hid hn
  clear hS0
  go_enter Try.func4, Try.ntmps4
  go_wp2_with fail
  refine (known_true _).mono ?_
  rintro e w1 ⟨rfl, hb1'⟩
  dsimp only
  have hb1 := below_then hb1' hb0.out
  have hS1 := hS.out.below hb1' hS.out.lt
  clear hb1'
  obtain ⟨e0, e1, e2, e3, e4, e5, e6, e7, e8⟩ := hS1.cells9
  go_wp2_with fail
  refine (light_any hv w1 (by rw [← hB.out]; exact hb1) (by rw [← hB.out]; exact hb1.size)).mono ?_
  rintro e w2 ⟨q, rfl, hb2'⟩
  dsimp only
  have hb2 := below_then hb2' hb1
  have hS2 := hS1.below hb2' hS1.lt
  clear e0 e1 e2 e3 e4 e5 e6 e7 e8 hS1 hb2' hb1
  obtain ⟨e0, e1, e2, e3, e4, e5, e6, e7, e8⟩ := hS2.cells9
  cases q
  · go_wp2_with fail
    go_ret
    exact ⟨rfl, hb2⟩
  by_cases h100 : 100 < N
  · go_wp2_with fail
    go_ret
    exact ⟨rfl, hb2⟩
  by_cases h101 : 100 < M
  · go_wp2_with fail
    go_ret
    exact ⟨rfl, hb2⟩
  have hB2 : B ≤ w2.heap.size := by rw [← hB.out]; exact hb2.size
  have hbB : Below B w w2 := by rw [← hB.out]; exact hb2
  have hr2 := (h.out.below hbB).more hB2
  have hput := call_put_reply (ca := cd) (er := er) ((hv.under hbB).up hB2) hok.out (Nat.le_refl _) hr2 (by rw [hN.out]; omega) hc.out hs.out hn.out
  rw [hN.out] at hput
  by_cases hck : errR er v = 0
  · obtain ⟨r, hr⟩ : ∃ r, b ++ bytesR c s n er v = r := ⟨_, rfl⟩
    obtain ⟨⟨her0, her1⟩, hcv⟩ := errR_two hck
    obtain ⟨hst, hg8, hz⟩ := checkV_zero hcv
    have hrl : r.length = N + (12 + sizeV v) := by rw [← hr, List.length_append, bytesR_len, encV_len, hN.out]
    replace hr := Lib.hid hr
    replace hrl := Lib.hid hrl
    go_wp2_with fail
    refine hput.mono ?_
    clear hput
    rintro e w3 ⟨hy, -⟩
    obtain ⟨A3, c3, rfl, ho3, hb3', hg3⟩ := hy hck
    rw [hr.out] at ho3 ⊢
    dsimp only
    clear hy
    have hb3 := below_then hb3' hb2
    have hS3 := hS2.below hb3' hS2.lt
    have hB3 : B ≤ w3.heap.size := Nat.le_trans hB2 hb3'.size
    have hbB3 : Below B w w3 := by rw [← hB.out]; exact hb3
    have hr3 := (h.out.below hbB3).more hB3
    clear e0 e1 e2 e3 e4 e5 e6 e7 e8 hS2
    have hrefput := ref_put_reply (er := er) ((hv.under hbB3.drew).up hB3) hok.out (Nat.le_refl _) hr3.drew (by rw [hN.out]; omega) hc.out hs.out hn.out
    rw [hN.out] at hrefput
    replace hrefput := Lib.hid hrefput
    have hS4 : Blk w3.drew w.heap.size 45 #[.int .u32 (c : Int), .int .u32 (s : Int), .int .u16 (n : Int), .int .i64 er, .int .i64 k, .int .i64 i, .float .f64 f, .string t, .slice A m cc] ∧ Below w.heap.size w w3.drew := ⟨hS3, hb3.drew⟩
    go_wp2_with fail
    refine wp_region_lex (fun W => Blk W w.heap.size 45 #[.int .u32 (c : Int), .int .u32 (s : Int), .int .u16 (n : Int), .int .i64 er, .int .i64 k, .int .i64 i, .float .f64 f, .string t, .slice A m cc] ∧ Below w.heap.size w W) [6] [7] [0, 1, 2, 3, 4, 5, 6, 7, 8, 9, 10, 11, 12] (by kernel_rfl) rfl (by kernel_rfl) (by kernel_rfl) (fun _ _ d _ _ h => by cases d <;> exact h) ?_
    repeat (first | (refine lexG_take _ ?_ rfl rfl rfl rfl (fun _ => ?_) ?_; rotate_left; (focus (go_simp; with_reducible rfl)); try simp only [Act.put, List.setIfInBounds_toArray, List.set_cons_zero, List.set_cons_succ]) | (refine lexG_held _ ?_ rfl rfl rfl rfl (by assumption) (fun _ hSw => ?_) ?_; rotate_left; (focus (have h1 := Blk.cells9 hSw.1; clear hSw; go_simp; with_reducible rfl)); try simp only [Act.put, List.setIfInBounds_toArray, List.set_cons_zero, List.set_cons_succ]) | (refine lexG_skip _ rfl rfl (by assumption) ?_; try simp only [Act.put, List.setIfInBounds_toArray, List.set_cons_zero, List.set_cons_succ]))
    refine lexG_now _ rfl rfl rfl (fun K hK => ?_)
    go_wp2_with fail
    refine hrefput.out.mono ?_
    clear hrefput
    rintro e w5 ⟨hy, -⟩
    obtain ⟨A5, c5, rfl, ho5, hb5d, hg5⟩ := hy hck
    rw [hr.out] at ho5 ⊢
    dsimp only
    clear hy
    have hb5' : Below w3.heap.size w3 w5 := below_of_drew hb5d
    have hS5 : Blk w5 w.heap.size 45 #[.int .u32 (c : Int), .int .u32 (s : Int), .int .u16 (n : Int), .int .i64 er, .int .i64 k, .int .i64 i, .float .f64 f, .string t, .slice A m cc] ∧ Below w.heap.size w w5 := ⟨hS3.below hb5' hS3.lt, below_then hb5' hb3⟩
    refine hK _ _ _ (fun _ h => h) hS5 ?_
    clear hK K hS4
    try simp only [Act.put, List.setIfInBounds_toArray, List.set_cons_zero, List.set_cons_succ]
    repeat (first | (refine lexG_take _ ?_ rfl rfl rfl rfl (fun _ => ?_) ?_; rotate_left; (focus (go_simp; with_reducible rfl)); try simp only [Act.put, List.setIfInBounds_toArray, List.set_cons_zero, List.set_cons_succ]) | (refine lexG_held _ ?_ rfl rfl rfl rfl (by assumption) (fun _ hSw => ?_) ?_; rotate_left; (focus (have h1 := Blk.cells9 hSw.1; clear hSw; go_simp; with_reducible rfl)); try simp only [Act.put, List.setIfInBounds_toArray, List.set_cons_zero, List.set_cons_succ]) | (refine lexG_skip _ rfl rfl (by assumption) ?_; try simp only [Act.put, List.setIfInBounds_toArray, List.set_cons_zero, List.set_cons_succ]))
    refine lexG_nil ?_
    have ho3' := ho3.below hb5' (Nat.le_refl _)
    have hb5 := below_then hb5' hb3
    have hcv1 := conv_bytes (c := c3) ho3'.reads_
    have hcv2 := conv_bytes (c := c5) ho5.reads_
    have hb5s := hb5'.size
    clear ho5 hg5 hb5d hb5' hr3 ho3 hb3' hS3
    have hrl := hrl.out
    obtain ⟨ad3, hA3, -, -⟩ := ho3'.reads_.2 (by omega)
    subst hA3
    have hc3 := ho3'.le_cap
    have hne3 : ¬ c3 = N := by omega
    have hrN : N ≤ r.length := by omega
    have hcut := ho3'.reads_.cut (k := N) (cap := c3) hrN hc3
    rw [if_neg hne3, Nat.mul_one, bys_drop, Option.map_some] at hcut
    have hdrop : r.drop N = bytesR c s n er v := by rw [← hr.out, ← hN.out, List.drop_left]
    rw [hdrop] at hcut
    have hel : (bytesR c s n er v).length = 12 + sizeV v := by rw [bytesR_len, encV_len]
    have hrl2 : r.length - N = (bytesR c s n er v).length := by omega
    rw [hrl2] at hcut
    have hmS := (h2.out.below (show Below B w w5 by rw [← hB.out]; exact hb5)).more (Nat.le_trans hB3 hb5s)
    have hbB5 : Below B w w5 := by rw [← hB.out]; exact hb5
    obtain ⟨x, hx⟩ : ∃ x, bytesR c s n er v = x := ⟨_, rfl⟩
    rw [hx] at hcut hrl2 hel
    obtain ⟨L, hL⟩ : ∃ L, r.length = L := ⟨_, rfl⟩
    have hxl : x.length = L - N := by omega
    rw [hL] at ho3' hc3 hrN hcv1 hcv2 hrl ⊢
    obtain ⟨y, hy⟩ : ∃ y, x ++ more = y := ⟨_, rfl⟩
    have hrd : rdRep y = some ((c, s, n, er.toNat), cleanV v, L - N) := by rw [← hy, ← hxl, ← hx]; exact rdRep_enc c s n er v more hok.out hc.out hs.out hn.out hck
    have hyb : bys x ++ bys more = bys y := by rw [← hy, bys_append]
    have hyl : x.length + more.length = y.length := by rw [← hy, List.length_append]
    clear hy
    replace hyb := Lib.hid hyb
    replace hyl := Lib.hid hyl
    replace hx := Lib.hid hx
    replace hL := Lib.hid hL
    replace hxl := Lib.hid hxl
    replace hel := Lib.hid hel
    replace hrl2 := Lib.hid hrl2
    replace hrd := Lib.hid hrd
    replace hdrop := Lib.hid hdrop
    rw [hxl.out] at hcut
    have hLle : L ≤ 4300 := by omega
    have hLn : N < L := by omega
    replace hrl := Lib.hid hrl
    clear hrN
    have hbf := hS5.1
    clear hS5
    go_wp2_with (at_builtin; go_must (refine wpList_append_mine rfl _ _ 22 22 rfl 5 i0 (.int .u8 0) 1 1 Try.underlying22 hi hz0 hz1 hz2 rfl rfl (Own.none_ (w := w5) (t := 5) (size := 1)) rfl (Src.ofReads Try.underlying22 _ hcut (bys_one _)) ?b1 ?b2 ?grow))
    case b1 => unfold maxLen; omega
    case b2 => omega
    case grow =>
      intro A6 c6 w6 ho6 hg6 hat6
      have hb6 : Below w5.heap.size w5 w6 := (Below.refl _ w5).grown hg6 (Nat.le_refl _) (fun k hk => by simp [bOf] at hk)
      have hm6 := (hmS.below hb6).more hb6.size
      rw [hM.out] at hm6
      have hxm := hyl.out
      rw [hxl.out, hM.out] at hxm
      replace hxm := Lib.hid hxm
      have hb6w := below_then hb6 hb5
      have hb6s := hb6.size
      have hat6' : ∀ g, bOf A6 = some g → w5.heap.size ≤ g := by
        intro g hg
        rcases hat6 with e | e
        · rw [e] at hg; simp [bOf] at hg
        · rw [e] at hg; cases hg; exact Nat.le_refl _
      clear hg6 hat6 hcut hmS ho3' hcv1 hcv2
      go_wp2_with (at_builtin; go_must (refine wpList_append_mine rfl _ _ 22 22 rfl 5 i0 (.int .u8 0) 1 1 Try.underlying22 hi hz0 hz1 hz2 rfl rfl ho6 rfl (Src.ofReads Try.underlying22 _ hm6 (bys_one _)) ?b1 ?b2 ?grow))
      case b1 => unfold maxLen; omega
      case b2 => omega
      case grow =>
        intro A7 c7 w7 ho7 hg7 hat7
        have hb7 : Below w.heap.size w w7 := hb6w.grown hg7 hb6w.size (fun k hk => Nat.le_trans hb5.size (hat6' k hk))
        rw [hyb.out, hxm.out] at ho7
        rw [hxm.out]
        have hb7' : Below w5.heap.size w5 w7 := hb6.grown hg7 hb6.size (fun k hk => hat6' k hk)
        have hb7s := hb7'.size
        clear hg7 hat7 hat6' ho6 hb6w hm6 hb6
        have hA7 := fun h => ho7.none_cap h
        have hc7 := ho7.le_cap
        obtain ⟨Z, hZ⟩ : ∃ Z, L - N = Z := ⟨_, rfl⟩
        have hrd := hrd.out
        rw [hZ] at hrd
        have hrdd := call_read_reply ho7.reads_ hA7 hc7 (by rw [← hxm.out]; omega) _ hrd
        clear hrd
        go_wp2_with fail
        refine hrdd.mono ?_
        clear hrdd
        have hen : ((er.toNat : Nat) : Int) = er := Int.toNat_of_nonneg her0
        rintro e w8 ⟨k7, i7, f7, s7, A9, n7, c9, rfl, hv8, hb8'⟩
        rw [hen]
        clear hen
        dsimp only
        have hZw : (Z : Int) = (L : Int) - (N : Int) := by omega
        replace hZw := Lib.hid hZw
        replace hZ := Lib.hid hZ
        have hb8 := below_then hb8' hb7
        have hb58 := below_then hb8' hb7'
        have hw5l := hbf.lt
        have hbf8 := hbf.below hb58 hbf.lt
        have hbox := Blk.new w8 45 #[.int .u32 (c : Int), .int .u32 (s : Int), .int .u16 (n : Int), .int .i64 er, .int .i64 k7, .int .i64 i7, .float .f64 f7, .string s7, .slice A9 n7 c9]
        have hb89 : Below w8.heap.size w8 (w8.alloc (.cells #[.int .u32 (c : Int), .int .u32 (s : Int), .int .u16 (n : Int), .int .i64 er, .int .i64 k7, .int .i64 i7, .float .f64 f7, .string s7, .slice A9 n7 c9] 45)) := (Below.refl _ w8).alloc (Nat.le_refl _) _
        have hbf9 := hbf8.below hb89 hbf8.lt
        have hv9 := hv8.upd ((Upd.refl (fun _ => False) w8).alloc (.cells #[.int .u32 (c : Int), .int .u32 (s : Int), .int .u16 (n : Int), .int .i64 er, .int .i64 k7, .int .i64 i7, .float .f64 f7, .string s7, .slice A9 n7 c9] 45)) (fun _ _ h => h)
        have hb9 := below_then hb89 hb8
        have hw9l : w.heap.size < w8.heap.size := hbf8.lt
        have hbbB := fun {x : World} (hx : Below w.heap.size w x) => (show Below B w x by rw [← hB.out]; exact hx)
        clear hv8 hb8' hb7' hb7 ho7 hA7 hc7 hbf8 hbf
        obtain ⟨e0, e1, e2, e3, e4, e5, e6, e7, e8⟩ := hbf9.cells9
        go_wp2_with fail
        have hlt8 : B ≤ w8.heap.size := by rw [← hB.out]; exact hb8.size
        have hbwB := hbbB hb9
        refine (ref_clean hv 8 _ hg8 hbwB (by rw [World.size_alloc]; omega)).mono ?_
        rintro e w11 ⟨cs11, rfl, hv11, hb11⟩
        obtain ⟨k8, i8, f8, t8, A8, n8, c8, hform⟩ := hv11.reads.form
        subst hform
        dsimp only
        have hb11s := hb11.size
        rw [World.size_alloc] at hb11s
        have hne : w.heap.size ≠ w8.heap.size := by omega
        have hbf11 := hbf9.below hb11 hbf9.lt
        have hbx11 := hbox.below hb11 hbox.lt
        have hv12 := hv9.upd (Upd.of_below_size (S := fun _ => False) hb11) (fun _ _ h => h)
        have hb12 := below_then hb11 hb9
        clear e0 e1 e2 e3 e4 e5 e6 e7 e8 hbf9 hbox hv9 hb9 hb89 hb11 hbwB
        have z4 := hbf11.frozen 4
        have z5 := hbf11.frozen 5
        have z6 := hbf11.frozen 6
        have z7 := hbf11.frozen 7
        have z8 := hbf11.frozen 8
        obtain ⟨e0, e1, e2, e3, e4, e5, e6, e7, e8⟩ := hbf11.cells9
        have B1 : Blk (((((w11.setCell ⟨w.heap.size, 4, none⟩ (.int .i64 k8)).setCell ⟨w.heap.size, 5, none⟩ (.int .i64 i8)).setCell ⟨w.heap.size, 6, none⟩ (.float .f64 f8)).setCell ⟨w.heap.size, 7, none⟩ (.string t8)).setCell ⟨w.heap.size, 8, none⟩ (.slice A8 n8 c8)) w.heap.size 45 #[.int .u32 (c : Int), .int .u32 (s : Int), .int .u16 (n : Int), .int .i64 er, .int .i64 k8, .int .i64 i8, .float .f64 f8, .string t8, .slice A8 n8 c8] := (((((hbf11.set_ 4 (.int .i64 k8)).set_ 5 (.int .i64 i8)).set_ 6 (.float .f64 f8)).set_ 7 (.string t8)).set_ 8 (.slice A8 n8 c8))
        have B2 : Blk (((((w11.setCell ⟨w.heap.size, 4, none⟩ (.int .i64 k8)).setCell ⟨w.heap.size, 5, none⟩ (.int .i64 i8)).setCell ⟨w.heap.size, 6, none⟩ (.float .f64 f8)).setCell ⟨w.heap.size, 7, none⟩ (.string t8)).setCell ⟨w.heap.size, 8, none⟩ (.slice A8 n8 c8)) w8.heap.size 45 #[.int .u32 (c : Int), .int .u32 (s : Int), .int .u16 (n : Int), .int .i64 er, .int .i64 k7, .int .i64 i7, .float .f64 f7, .string s7, .slice A9 n7 c9] := (((((hbx11.far (p := ⟨w.heap.size, 4, none⟩) hne.symm (.int .i64 k8)).far (p := ⟨w.heap.size, 5, none⟩) hne.symm (.int .i64 i8)).far (p := ⟨w.heap.size, 6, none⟩) hne.symm (.float .f64 f8)).far (p := ⟨w.heap.size, 7, none⟩) hne.symm (.string t8)).far (p := ⟨w.heap.size, 8, none⟩) hne.symm (.slice A8 n8 c8))
        have hu5 : Upd (fun x => x = w.heap.size) w11 (((((w11.setCell ⟨w.heap.size, 4, none⟩ (.int .i64 k8)).setCell ⟨w.heap.size, 5, none⟩ (.int .i64 i8)).setCell ⟨w.heap.size, 6, none⟩ (.float .f64 f8)).setCell ⟨w.heap.size, 7, none⟩ (.string t8)).setCell ⟨w.heap.size, 8, none⟩ (.slice A8 n8 c8)) := ((((((Upd.refl (fun x => x = w.heap.size) w11).setCell (p := ⟨w.heap.size, 4, none⟩) (fun _ => rfl) (.int .i64 k8)).setCell (p := ⟨w.heap.size, 5, none⟩) (fun _ => rfl) (.int .i64 i8)).setCell (p := ⟨w.heap.size, 6, none⟩) (fun _ => rfl) (.float .f64 f8)).setCell (p := ⟨w.heap.size, 7, none⟩) (fun _ => rfl) (.string t8)).setCell (p := ⟨w.heap.size, 8, none⟩) (fun _ => rfl) (.slice A8 n8 c8))
        have hw7l : w.heap.size < w7.heap.size := by omega
        have hv13 := (hv12.upd hu5 (fun g hg e => by have h9 : w7.heap.size ≤ g := hg; omega)).reads
        have hv14 := (hv11.upd hu5 (fun g hg e => by rw [World.size_alloc] at hg; omega)).reads
        have hb15 : Below w.heap.size w (((((w11.setCell ⟨w.heap.size, 4, none⟩ (.int .i64 k8)).setCell ⟨w.heap.size, 5, none⟩ (.int .i64 i8)).setCell ⟨w.heap.size, 6, none⟩ (.float .f64 f8)).setCell ⟨w.heap.size, 7, none⟩ (.string t8)).setCell ⟨w.heap.size, 8, none⟩ (.slice A8 n8 c8)) := hb12.trans (hu5.below hb12.size (fun g hg e => by omega))
        have hrs := rep_same (c := (c : Int)) (s := (s : Int)) (n := (n : Int)) (er := er) hv13 hv14 (Nat.le_refl _)
        obtain ⟨p0, p1, p2, p3, p4, p5, p6, p7, p8⟩ := B1.cells9
        obtain ⟨q0, q1, q2, q3, q4, q5, q6, q7, q8⟩ := B2.cells9
        have hcmp : ((Z : Int) == (L : Int) - (N : Int)) = true := by rw [beq_iff_eq]; exact hZw.out
        have hwsub : IntKind.i64.wrap ((L : Int) - (N : Int)) = (L : Int) - (N : Int) := w64_id _ (by omega) (by omega)
        replace hrs := Lib.hid hrs
        replace hb15 := Lib.hid hb15
        clear B1 B2 hu5 hv13 hv14 hv12 hv11 hbf11 hbx11 hb12
        go_wp2_with fail
        refine hrs.out.mono ?_
        rintro e w16 ⟨rfl, hb16⟩
        dsimp only
        have hfin := below_then hb16 hb15.out
        go_wp2_with fail
        go_ret
        exact ⟨rfl, hfin⟩
  · have hne : ((errR er v : Int) != 0) = true := by rw [bne_iff_ne]; omega
    have heq : ((errR er v : Int) != (errR er v : Int)) = false := by simp
    have hrefput := fun w4 (hb4 : Below w2.heap.size w2 w4) => ref_put_reply (er := er) ((hv.under (hbB.trans (hb4.mono hB2))).up (Nat.le_trans hB2 hb4.size)) hok.out (Nat.le_refl _) ((h.out.below (hbB.trans (hb4.mono hB2))).more (Nat.le_trans hB2 hb4.size)) (by rw [hN.out]; omega) hc.out hs.out hn.out
    rw [hN.out] at hrefput
    have hput := hput.mono (fun e w' h => h.2 hck)
    have hrefput := fun w4 hb4 => (hrefput w4 hb4).mono (fun e w' h => h.2 hck)
    unfold PutNo at hput hrefput
    generalize errR er v = x at *
    have hcv1 := fun w5 => conv_bytes (w := w5) (B := 0) (n := 0) (c := 0) (A := none) (bs := []) Reads.none_
    replace hrefput := Lib.hid hrefput
    go_wp2_with fail
    refine hput.mono ?_
    clear hput
    rintro e w3 ⟨rfl, hb3'⟩
    dsimp only
    have hb3 := below_then hb3' hb2
    have hS3 := hS2.below hb3' hS2.lt
    have hS4 : Blk w3.drew w.heap.size 45 #[.int .u32 (c : Int), .int .u32 (s : Int), .int .u16 (n : Int), .int .i64 er, .int .i64 k, .int .i64 i, .float .f64 f, .string t, .slice A m cc] ∧ Below w.heap.size w w3.drew := ⟨hS3, hb3.drew⟩
    clear e0 e1 e2 e3 e4 e5 e6 e7 e8
    go_wp2_with fail
    refine wp_region_lex (fun W => Blk W w.heap.size 45 #[.int .u32 (c : Int), .int .u32 (s : Int), .int .u16 (n : Int), .int .i64 er, .int .i64 k, .int .i64 i, .float .f64 f, .string t, .slice A m cc] ∧ Below w.heap.size w W) [6] [7] [0, 1, 2, 3, 4, 5, 6, 7, 8, 9, 10, 11, 12] (by kernel_rfl) rfl (by kernel_rfl) (by kernel_rfl) (fun _ _ d _ _ h => by cases d <;> exact h) ?_
    repeat (first | (refine lexG_take _ ?_ rfl rfl rfl rfl (fun _ => ?_) ?_; rotate_left; (focus (go_simp; with_reducible rfl)); try simp only [Act.put, List.setIfInBounds_toArray, List.set_cons_zero, List.set_cons_succ]) | (refine lexG_held _ ?_ rfl rfl rfl rfl (by assumption) (fun _ hSw => ?_) ?_; rotate_left; (focus (have h1 := Blk.cells9 hSw.1; clear hSw; go_simp; with_reducible rfl)); try simp only [Act.put, List.setIfInBounds_toArray, List.set_cons_zero, List.set_cons_succ]) | (refine lexG_skip _ rfl rfl (by assumption) ?_; try simp only [Act.put, List.setIfInBounds_toArray, List.set_cons_zero, List.set_cons_succ]))
    refine lexG_now _ rfl rfl rfl (fun K hK => ?_)
    go_wp2_with fail
    refine (hrefput.out w3.drew hb3'.drew).mono ?_
    clear hrefput
    rintro e w5 ⟨rfl, hb5d⟩
    dsimp only
    have hb5' : Below w3.heap.size w3 w5 := below_of_drew hb5d
    have hS5 : Blk w5 w.heap.size 45 #[.int .u32 (c : Int), .int .u32 (s : Int), .int .u16 (n : Int), .int .i64 er, .int .i64 k, .int .i64 i, .float .f64 f, .string t, .slice A m cc] ∧ Below w.heap.size w w5 := ⟨hS3.below hb5' hS3.lt, below_then hb5' hb3⟩
    refine hK _ _ _ (fun _ h => h) hS5 ?_
    clear hK K hS4
    try simp only [Act.put, List.setIfInBounds_toArray, List.set_cons_zero, List.set_cons_succ]
    repeat (first | (refine lexG_take _ ?_ rfl rfl rfl rfl (fun _ => ?_) ?_; rotate_left; (focus (go_simp; with_reducible rfl)); try simp only [Act.put, List.setIfInBounds_toArray, List.set_cons_zero, List.set_cons_succ]) | (refine lexG_held _ ?_ rfl rfl rfl rfl (by assumption) (fun _ hSw => ?_) ?_; rotate_left; (focus (have h1 := Blk.cells9 hSw.1; clear hSw; go_simp; with_reducible rfl)); try simp only [Act.put, List.setIfInBounds_toArray, List.set_cons_zero, List.set_cons_succ]) | (refine lexG_skip _ rfl rfl (by assumption) ?_; try simp only [Act.put, List.setIfInBounds_toArray, List.set_cons_zero, List.set_cons_succ]))
    refine lexG_nil ?_
    have hfin := hS5.2
    go_wp2_with fail
    go_ret
    exact ⟨rfl, hfin⟩
end Go.Proofs.Ytblakaddanoilaa
