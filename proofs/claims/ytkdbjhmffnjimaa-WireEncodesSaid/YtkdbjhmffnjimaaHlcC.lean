
/-
  hlc's order of stamps: contracts of cmp.Compare, cmp.Or, hlc.Compare, hlc.is, the reference's Compare and Is.
-/
import Derived.Test.YtkdbjhmffnjimaaRows
import Derived.Test.YtkdbjhmffnjimaaStamp
import Derived.Deep.RegionHeld3
import Derived.Deep.DrawnRows
namespace Go.Proofs.Ytkdbjhmffnjimaa
open Go.RowKit
attribute [local go_sem ↓] Go.wp_at_zero Go.wp_at_succ

def cmpI (x y : Int) : Int := if x < y then -1 else if y < x then 1 else 0
def orI (x y : Int) : Int := if x = 0 then y else x
theorem orI_cmp (a b : St) : orI (cmpI a.m b.m) (cmpI a.c b.c) = cmpS a b := by
  unfold orI cmpI cmpS
  split <;> split <;> (try split) <;> (try split) <;> (try split) <;> omega

theorem cell_new (w : World) (cs : Array Value) (t : TypeId) {g i : Nat} (hg : g = w.heap.size) : (w.alloc (.cells cs t)).cell? ⟨g, i, none⟩ = cs[i]? := by
  subst hg; exact (At.new w t cs).cell i
theorem isMilli_yes (x : Int) (w : World) (h0 : 0 ≤ x) (h1 : x ≤ 281474976710655) : Calls Try.prog 80 #[.int .i64 x] w fun e w' => e = .returned (.bool true) ∧ w = w' := by
  go_enter Try.func80, Try.ntmps80
  go_wp2_with (fail)
  go_ret
  exact ⟨rfl, rfl⟩
theorem isMilli_no (x : Int) (w : World) (h : x < 0 ∨ 281474976710655 < x) : Calls Try.prog 80 #[.int .i64 x] w fun e w' => e = .returned (.bool false) ∧ w = w' := by
  rcases h with h | h
  · go_enter Try.func80, Try.ntmps80
    go_wp2_with (fail)
    go_ret
    exact ⟨rfl, rfl⟩
  · have h0 : 0 ≤ x := by omega
    go_enter Try.func80, Try.ntmps80
    go_wp2_with (fail)
    go_ret
    exact ⟨by simp; omega, rfl⟩
set_option maxHeartbeats 800000 in
theorem is_yes (m c : Int) (w : World) (h : isS m c = true) : Calls Try.prog 78 #[.agg #[.int .i64 m, .int .i64 c]] w fun e w' => e = .returned (.bool true) ∧ Chg [] w w' := by
  obtain ⟨h0, h1, h2, h3⟩ := isS_iff.1 h
  clear h
  go_enter Try.func78, Try.ntmps78
  go_wp2_with (go_at_call 80; refine (isMilli_yes _ _ h0 h1).mono ?_; rintro e w' ⟨rfl, rfl⟩)
  go_ret
  exact ⟨rfl, (Chg.refl _ _).alloc _⟩
set_option maxHeartbeats 800000 in
theorem is_no (m c : Int) (w : World) (h : isS m c = false) : Calls Try.prog 78 #[.agg #[.int .i64 m, .int .i64 c]] w fun e w' => e = .returned (.bool false) ∧ Chg [] w w' := by
  by_cases hm : m < 0 ∨ 281474976710655 < m
  · clear h
    go_enter Try.func78, Try.ntmps78
    go_wp2_with (go_at_call 80; refine (isMilli_no _ _ hm).mono ?_; rintro e w' ⟨rfl, rfl⟩)
    go_ret
    exact ⟨rfl, (Chg.refl _ _).alloc _⟩
  · have h0 : 0 ≤ m := by omega
    have h1 : m ≤ 281474976710655 := by omega
    clear hm
    by_cases hc : c < 0
    · clear h
      go_enter Try.func78, Try.ntmps78
      go_wp2_with (go_at_call 80; refine (isMilli_yes _ _ h0 h1).mono ?_; rintro e w' ⟨rfl, rfl⟩)
      go_ret
      exact ⟨rfl, (Chg.refl _ _).alloc _⟩
    · have h2 : 0 ≤ c := by omega
      have h3 := isS_high h h0 h1 h2
      clear h hc
      go_enter Try.func78, Try.ntmps78
      go_wp2_with (go_at_call 80; refine (isMilli_yes _ _ h0 h1).mono ?_; rintro e w' ⟨rfl, rfl⟩)
      go_ret
      exact ⟨by simp; omega, (Chg.refl _ _).alloc _⟩
end Go.Proofs.Ytkdbjhmffnjimaa
