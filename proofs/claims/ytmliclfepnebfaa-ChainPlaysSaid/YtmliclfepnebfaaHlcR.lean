
/-
  The reference's stamps (chapter 10): Is, Compare.
-/
import Derived.Test.YtmliclfepnebfaaRows
import Derived.Test.YtmliclfepnebfaaStamp
namespace Go.Proofs.Ytmliclfepnebfaa
open Go.RowKit

set_option maxHeartbeats 800000 in
theorem refIs_yes (m c : Int) (w : World) (h : isS m c = true) : Calls Try.prog 40 #[.agg #[.int .i64 m, .int .i64 c]] w fun e w' => e = .returned (.bool true) ∧ Chg [] w w' := by
  obtain ⟨h0, h1, h2, h3⟩ := isS_iff.1 h
  clear h
  go_enter Try.func40, Try.ntmps40
  go_wp2_with (fail)
  go_ret
  exact ⟨rfl, (Chg.refl _ _).alloc _⟩
set_option maxHeartbeats 1600000 in
theorem refIs_no (m c : Int) (w : World) (h : isS m c = false) : Calls Try.prog 40 #[.agg #[.int .i64 m, .int .i64 c]] w fun e w' => e = .returned (.bool false) ∧ Chg [] w w' := by
  by_cases h0 : m < 0
  · clear h
    go_enter Try.func40, Try.ntmps40
    go_wp2_with (fail)
    go_ret
    exact ⟨rfl, (Chg.refl _ _).alloc _⟩
  · have h0' : 0 ≤ m := by omega
    clear h0
    by_cases h1 : 281474976710655 < m
    · clear h
      go_enter Try.func40, Try.ntmps40
      go_wp2_with (fail)
      go_ret
      exact ⟨rfl, (Chg.refl _ _).alloc _⟩
    · have h1' : m ≤ 281474976710655 := by omega
      clear h1
      by_cases hc : c < 0
      · clear h
        go_enter Try.func40, Try.ntmps40
        go_wp2_with (fail)
        go_ret
        exact ⟨rfl, (Chg.refl _ _).alloc _⟩
      · have h2 : 0 ≤ c := by omega
        have h3 := isS_high h h0' h1' h2
        clear h hc
        go_enter Try.func40, Try.ntmps40
        go_wp2_with (fail)
        go_ret
        exact ⟨by simp; omega, (Chg.refl _ _).alloc _⟩
set_option maxHeartbeats 1600000 in
theorem refCompare_any (am ac bm bc : Int) (w : World) :
    Calls Try.prog 31 #[.agg #[.int .i64 am, .int .i64 ac], .agg #[.int .i64 bm, .int .i64 bc]] w fun e w' => e = .returned (.int .i64 (cmpS ⟨am, ac⟩ ⟨bm, bc⟩)) ∧ Chg [] w w' := by
  obtain ⟨z, HZ⟩ : ∃ z, Hid (cmpS ⟨am, ac⟩ ⟨bm, bc⟩ = z) := ⟨_, rfl⟩
  rw [HZ.out]
  unfold cmpS at HZ
  rcases Int.lt_trichotomy am bm with h | rfl | h
  · have H1 : z = -1 := by rw [← HZ.out, if_pos (.inl h)]
    subst H1
    clear HZ
    go_enter Try.func31, Try.ntmps31
    go_wp2_with (fail)
    go_ret
    exact ⟨rfl, ((Chg.refl _ _).alloc _).alloc _⟩
  · rcases Int.lt_trichotomy ac bc with h | rfl | h
    · have H1 : z = -1 := by rw [← HZ.out, if_pos (.inr ⟨rfl, h⟩)]
      subst H1
      clear HZ
      go_enter Try.func31, Try.ntmps31
      go_wp2_with (fail)
      go_ret
      exact ⟨rfl, ((Chg.refl _ _).alloc _).alloc _⟩
    · have H1 : z = 0 := by rw [← HZ.out, if_neg (by simp), if_pos ⟨rfl, rfl⟩]
      subst H1
      clear HZ
      go_enter Try.func31, Try.ntmps31
      go_wp2_with (fail)
      go_ret
      exact ⟨rfl, ((Chg.refl _ _).alloc _).alloc _⟩
    · have H1 : z = 1 := by rw [← HZ.out, if_neg (by simp; omega), if_neg (by simp; omega)]
      subst H1
      clear HZ
      have e1 : (ac == bc) = false := beq_eq_false_iff_ne.2 (by omega)
      go_enter Try.func31, Try.ntmps31
      go_wp2_with (fail)
      go_ret
      exact ⟨rfl, ((Chg.refl _ _).alloc _).alloc _⟩
  · have H1 : z = 1 := by rw [← HZ.out, if_neg (by simp; omega), if_neg (by simp; omega)]
    subst H1
    clear HZ
    have e1 : (am == bm) = false := beq_eq_false_iff_ne.2 (by omega)
    go_enter Try.func31, Try.ntmps31
    go_wp2_with (fail)
    go_ret
    exact ⟨rfl, ((Chg.refl _ _).alloc _).alloc _⟩
end Go.Proofs.Ytmliclfepnebfaa
