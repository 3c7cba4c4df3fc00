
/-
  The reference's stamps (chapter 10): Is, Compare.
-/
import Derived.Test.YtkdbjhmffnjimaaRows
import Derived.Test.YtkdbjhmffnjimaaStamp
namespace Go.Proofs.Ytkdbjhmffnjimaa
open Go.RowKit

set_option maxHeartbeats 800000 in
theorem refIs_yes (m c : Int) (w : World) (h : isS m c = true) : Calls Try.prog 45 #[.agg #[.int .i64 m, .int .i64 c]] w fun e w' => e = .returned (.bool true) ∧ Chg [] w w' := by
  obtain ⟨h0, h1, h2, h3⟩ := isS_iff.1 h
  clear h
  go_enter Try.func45, Try.ntmps45
  go_wp2_with (fail)
  go_ret
  exact ⟨rfl, (Chg.refl _ _).alloc _⟩
set_option maxHeartbeats 1600000 in
theorem refIs_no (m c : Int) (w : World) (h : isS m c = false) : Calls Try.prog 45 #[.agg #[.int .i64 m, .int .i64 c]] w fun e w' => e = .returned (.bool false) ∧ Chg [] w w' := by
  by_cases h0 : m < 0
  · clear h
    go_enter Try.func45, Try.ntmps45
    go_wp2_with (fail)
    go_ret
    exact ⟨rfl, (Chg.refl _ _).alloc _⟩
  · have h0' : 0 ≤ m := by omega
    clear h0
    by_cases h1 : 281474976710655 < m
    · clear h
      go_enter Try.func45, Try.ntmps45
      go_wp2_with (fail)
      go_ret
      exact ⟨rfl, (Chg.refl _ _).alloc _⟩
    · have h1' : m ≤ 281474976710655 := by omega
      clear h1
      by_cases hc : c < 0
      · clear h
        go_enter Try.func45, Try.ntmps45
        go_wp2_with (fail)
        go_ret
        exact ⟨rfl, (Chg.refl _ _).alloc _⟩
      · have h2 : 0 ≤ c := by omega
        have h3 := isS_high h h0' h1' h2
        clear h hc
        go_enter Try.func45, Try.ntmps45
        go_wp2_with (fail)
        go_ret
        exact ⟨by simp; omega, (Chg.refl _ _).alloc _⟩
end Go.Proofs.Ytkdbjhmffnjimaa
