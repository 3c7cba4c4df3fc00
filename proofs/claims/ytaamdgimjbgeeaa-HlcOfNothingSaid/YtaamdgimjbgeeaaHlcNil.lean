/-
  HlcOfNothing: a nil Clock gives no stamp.
-/
import Derived.Test.YtaamdgimjbgeeaaHlcN
namespace Go.Proofs.Ytaamdgimjbgeeaa
open Go.RowKit

set_option maxHeartbeats 1600000 in
theorem hlcNothing_walk (w : World) (n : Int) (_ : (Lit.int .i64 n).wf = true) (m c : Int) (_ : (Lit.int .i64 m).wf = true) (_ : (Lit.int .i64 c).wf = true) :
    Calls Try.prog 12 #[.int .i64 n, .agg #[.int .i64 m, .int .i64 c]] w fun e w' => e = .returned (.bool true) ∧ Chg [] w w' := by
  go_enter Try.func12, Try.ntmps12
  go_wp2_with (fail)
  refine (send_nil _ _).mono ?_
  rintro e w1 ⟨rfl, hch1⟩
  have hs := (At.new w 24 #[.int .i64 m, .int .i64 c]).keep hch1 (by simp)
  obtain ⟨p0, p1, p2⟩ := hs.st
  go_wp2_with (first
    | (go_at_call 19; refine (hear_nil _ _ _).mono ?_; rintro e w' ⟨rfl, rfl⟩)
    | (go_at_call 25; refine (last_nil _).mono ?_; rintro e w2 ⟨rfl, hch2⟩)
    | (go_at_call 33; refine (bound_nil _).mono ?_; rintro e w' ⟨rfl, rfl⟩)
    | (go_at_call 18; refine (raise_nil _ _).mono ?_; rintro e w' ⟨rfl, rfl⟩)
    | (go_at_call 16; refine (known_any _).mono ?_; rintro e w3 ⟨rfl, hch3⟩))
  go_ret
  exact ⟨rfl, (((((Chg.refl _ _).alloc _).trans hch1 (by simp)).alloc _).alloc _).trans hch2 (by simp) |>.trans hch3 (by simp)⟩
end Go.Proofs.Ytaamdgimjbgeeaa
