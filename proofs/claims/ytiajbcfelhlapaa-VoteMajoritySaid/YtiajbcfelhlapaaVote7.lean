/- Vote: choirhelp.Reply of one flat reply with itself; VoteStays. -/
import Derived.Test.YtiajbcfelhlapaaVote6
namespace Go.Proofs.Ytiajbcfelhlapaa
open Go.RowKit

theorem reply_same (c s n e1 k1 i1 : Int) (f1 : Nat) (w : World) :
    Calls Try.prog 17 #[.agg #[.int .u32 c, .int .u32 s, .int .u16 n, .int .i64 e1, .int .i64 k1, .int .i64 i1, .float .f64 f1, .string ⟨#[]⟩, .slice none 0 0], .agg #[.int .u32 c, .int .u32 s, .int .u16 n, .int .i64 e1, .int .i64 k1, .int .i64 i1, .float .f64 f1, .string ⟨#[]⟩, .slice none 0 0]] w (Says w (.bool true)) := by
  have hbl := ((Below.refl w.heap.size w).alloc (Nat.le_refl _) (.cells #[.int .u32 c, .int .u32 s, .int .u16 n, .int .i64 e1, .int .i64 k1, .int .i64 i1, .float .f64 f1, .string ⟨#[]⟩, .slice none 0 0] 32)).alloc (by simp) (.cells #[.int .u32 c, .int .u32 s, .int .u16 n, .int .i64 e1, .int .i64 k1, .int .i64 i1, .float .f64 f1, .string ⟨#[]⟩, .slice none 0 0] 32)
  have hsm := fun w2 => same_true ((VOwn.flat w2 (fun _ => False) k1 i1 f1 []).reads) #[.int .i64 k1, .int .i64 i1, .float .f64 f1, .string ⟨#[]⟩, .slice none 0 0] w2 ((VOwn.flat w2 (fun _ => False) k1 i1 f1 []).reads) (Below.refl _ _) (Nat.le_refl _)
  have hbs : bstr [] = ⟨#[]⟩ := rfl
  rw [hbs] at hsm
  clear hbs
  go_enter Try.func17, Try.ntmps17
  go_wp2_with fail
  refine (hsm _).mono ?_
  rintro e w3 ⟨rfl, hb3⟩
  dsimp only
  have hfin := below_then hb3 hbl
  go_wp2_with fail
  go_ret
  exact ⟨rfl, hfin⟩
end Go.Proofs.Ytiajbcfelhlapaa

