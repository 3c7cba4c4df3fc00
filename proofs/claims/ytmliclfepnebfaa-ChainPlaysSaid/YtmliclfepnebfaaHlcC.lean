
/-
  hlc's order of stamps: contracts of cmp.Compare, cmp.Or, hlc.Compare, hlc.is, the reference's Compare and Is.
-/
import Derived.Test.YtmliclfepnebfaaRows
import Derived.Test.YtmliclfepnebfaaStamp
import Derived.Deep.RegionHeld3
import Derived.Deep.DrawnRows
namespace Go.Proofs.Ytmliclfepnebfaa
open Go.RowKit
attribute [local go_sem ↓] Go.wp_at_zero Go.wp_at_succ

def cmpI (x y : Int) : Int := if x < y then -1 else if y < x then 1 else 0
def orI (x y : Int) : Int := if x = 0 then y else x
theorem orI_cmp (a b : St) : orI (cmpI a.m b.m) (cmpI a.c b.c) = cmpS a b := by
  unfold orI cmpI cmpS
  split <;> split <;> (try split) <;> (try split) <;> (try split) <;> omega

theorem isNaN_any (x : Int) (w : World) : Calls Try.prog 52 #[.int .i64 x] w fun e w' => e = .returned (.bool false) ∧ w = w' := by
  go_enter Try.func52, Try.ntmps52
  go_wp2_with (fail)
  go_ret
  exact ⟨by simp, rfl⟩
set_option maxHeartbeats 800000 in
theorem cmpI_any (x y : Int) (w : World) : Calls Try.prog 47 #[.int .i64 x, .int .i64 y] w fun e w' => e = .returned (.int .i64 (cmpI x y)) ∧ w = w' := by
  by_cases h1 : x < y
  · go_enter Try.func47, Try.ntmps47
    go_wp2_with (go_at_call 52; refine (isNaN_any _ _).mono ?_; rintro e w' ⟨rfl, rfl⟩)
    go_ret
    exact ⟨by simp [cmpI, h1], rfl⟩
  · by_cases h2 : y < x
    · go_enter Try.func47, Try.ntmps47
      go_wp2_with (go_at_call 52; refine (isNaN_any _ _).mono ?_; rintro e w' ⟨rfl, rfl⟩)
      go_ret
      exact ⟨by simp [cmpI, h1, h2], rfl⟩
    · have HC : Hid (cmpI x y = 0) := by unfold Hid cmpI; rw [if_neg h1, if_neg h2]
      go_enter Try.func47, Try.ntmps47
      go_wp2_with (go_at_call 52; refine (isNaN_any _ _).mono ?_; rintro e w' ⟨rfl, rfl⟩)
      go_ret
      exact ⟨by rw [HC.out]; rfl, rfl⟩
set_option maxHeartbeats 800000 in
theorem or_any (x y : Int) (g : Nat) (w : World) (h0 : w.cell? ⟨g, 0, none⟩ = some (.int .i64 x)) (h1 : w.cell? ⟨g, 1, none⟩ = some (.int .i64 y)) :
    Calls Try.prog 46 #[.slice (some ⟨g, 0, none⟩) 2 2] w fun e w' => e = .returned (.int .i64 (orI x y)) ∧ w = w' := by
  go_enter Try.func46, Try.ntmps46
  go_wp2_with (fail)
  go_loop [8] (fun i => ∃ k : Nat, k ≤ 2 ∧ i = .int .i64 k ∧ Hid (1 ≤ k → x = 0) ∧ Hid (2 ≤ k → y = 0)) (fun i => 2 - (intOf i).toNat)
  case atStart => exact ⟨0, by omega, rfl, by unfold Hid; omega, by unfold Hid; omega⟩
  case round =>
    obtain ⟨k, hk, rfl, hx, hy⟩ := hrel
    have h3 : k = 0 ∨ k = 1 ∨ k = 2 := by omega
    rcases h3 with rfl | rfl | rfl
    · by_cases hz : x = 0
      · have e1 : (x != 0) = false := by simp [hz]
        have Hz := Lib.hid hz
        clear hz
        go_wp2_with (fail)
        go_round
        case rel => exact ⟨1, by omega, by go_num, fun _ => Hz.out, by unfold Hid; omega⟩
        case measure => simp [intOf]
      · have e1 : (x != 0) = true := by simp [hz]
        go_wp2_with (fail)
        go_ret
        exact ⟨by simp [orI, hz], rfl⟩
    · have hx0 := hx.out (by omega)
      have Hx0 := Lib.hid hx0
      clear hx0
      by_cases hz : y = 0
      · have e1 : (y != 0) = false := by simp [hz]
        have Hz := Lib.hid hz
        clear hz
        go_wp2_with (fail)
        go_round
        case rel => exact ⟨2, by omega, by go_num, fun _ => Hx0.out, fun _ => Hz.out⟩
        case measure => simp [intOf]
      · have e1 : (y != 0) = true := by simp [hz]
        go_wp2_with (fail)
        go_ret
        exact ⟨by simp [orI, Hx0.out], rfl⟩
    · have Hx0 := Lib.hid (hx.out (by omega))
      have Hy0 := Lib.hid (hy.out (by omega))
      go_wp2_with (fail)
      go_ret
      exact ⟨by simp [orI, Hx0.out, Hy0.out], rfl⟩
theorem cell_new (w : World) (cs : Array Value) (t : TypeId) {g i : Nat} (hg : g = w.heap.size) : (w.alloc (.cells cs t)).cell? ⟨g, i, none⟩ = cs[i]? := by
  subst hg; exact (At.new w t cs).cell i
set_option maxHeartbeats 1600000 in
theorem compare_any (am ac bm bc : Int) (w : World) :
    Calls Try.prog 45 #[.agg #[.int .i64 am, .int .i64 ac], .agg #[.int .i64 bm, .int .i64 bc]] w fun e w' => e = .returned (.int .i64 (cmpS ⟨am, ac⟩ ⟨bm, bc⟩)) ∧ Chg [] w w' := by
  have HC : Hid (orI (cmpI am bm) (cmpI ac bc) = cmpS ⟨am, ac⟩ ⟨bm, bc⟩) := orI_cmp ⟨am, ac⟩ ⟨bm, bc⟩
  go_enter Try.func45, Try.ntmps45
  go_wp2_with (fail)
  go_region_held3 (fun w' => w'.cell? ⟨w.heap.size, 0, none⟩ = some (.int .i64 am) ∧ w'.cell? ⟨w.heap.size, 1, none⟩ = some (.int .i64 ac) ∧ w'.cell? ⟨w.heap.size + 1, 0, none⟩ = some (.int .i64 bm) ∧ w'.cell? ⟨w.heap.size + 1, 1, none⟩ = some (.int .i64 bc)) (go_keep) (first | (go_at_call 47; refine (cmpI_any _ _ _).mono ?_; rintro e w' ⟨rfl, rfl⟩) | (go_at_call 46; refine (or_any (cmpI am bm) (cmpI ac bc) _ _ ?_ ?_).mono ?_; (exact cell_new _ _ _ (by simp)); (exact cell_new _ _ _ (by simp)); rintro e w' ⟨rfl, rfl⟩))
  all_goals go_wp2_with (fail)
  all_goals go_ret
  all_goals exact ⟨by rw [HC.out]; rfl, ((((Chg.refl _ _).alloc _).alloc _).alloc _).drew⟩

theorem isMilli_yes (x : Int) (w : World) (h0 : 0 ≤ x) (h1 : x ≤ 281474976710655) : Calls Try.prog 54 #[.int .i64 x] w fun e w' => e = .returned (.bool true) ∧ w = w' := by
  go_enter Try.func54, Try.ntmps54
  go_wp2_with (fail)
  go_ret
  exact ⟨rfl, rfl⟩
theorem isMilli_no (x : Int) (w : World) (h : x < 0 ∨ 281474976710655 < x) : Calls Try.prog 54 #[.int .i64 x] w fun e w' => e = .returned (.bool false) ∧ w = w' := by
  rcases h with h | h
  · go_enter Try.func54, Try.ntmps54
    go_wp2_with (fail)
    go_ret
    exact ⟨rfl, rfl⟩
  · have h0 : 0 ≤ x := by omega
    go_enter Try.func54, Try.ntmps54
    go_wp2_with (fail)
    go_ret
    exact ⟨by simp; omega, rfl⟩
set_option maxHeartbeats 800000 in
theorem is_yes (m c : Int) (w : World) (h : isS m c = true) : Calls Try.prog 51 #[.agg #[.int .i64 m, .int .i64 c]] w fun e w' => e = .returned (.bool true) ∧ Chg [] w w' := by
  obtain ⟨h0, h1, h2, h3⟩ := isS_iff.1 h
  clear h
  go_enter Try.func51, Try.ntmps51
  go_wp2_with (go_at_call 54; refine (isMilli_yes _ _ h0 h1).mono ?_; rintro e w' ⟨rfl, rfl⟩)
  go_ret
  exact ⟨rfl, (Chg.refl _ _).alloc _⟩
set_option maxHeartbeats 800000 in
theorem is_no (m c : Int) (w : World) (h : isS m c = false) : Calls Try.prog 51 #[.agg #[.int .i64 m, .int .i64 c]] w fun e w' => e = .returned (.bool false) ∧ Chg [] w w' := by
  by_cases hm : m < 0 ∨ 281474976710655 < m
  · clear h
    go_enter Try.func51, Try.ntmps51
    go_wp2_with (go_at_call 54; refine (isMilli_no _ _ hm).mono ?_; rintro e w' ⟨rfl, rfl⟩)
    go_ret
    exact ⟨rfl, (Chg.refl _ _).alloc _⟩
  · have h0 : 0 ≤ m := by omega
    have h1 : m ≤ 281474976710655 := by omega
    clear hm
    by_cases hc : c < 0
    · clear h
      go_enter Try.func51, Try.ntmps51
      go_wp2_with (go_at_call 54; refine (isMilli_yes _ _ h0 h1).mono ?_; rintro e w' ⟨rfl, rfl⟩)
      go_ret
      exact ⟨rfl, (Chg.refl _ _).alloc _⟩
    · have h2 : 0 ≤ c := by omega
      have h3 := isS_high h h0 h1 h2
      clear h hc
      go_enter Try.func51, Try.ntmps51
      go_wp2_with (go_at_call 54; refine (isMilli_yes _ _ h0 h1).mono ?_; rintro e w' ⟨rfl, rfl⟩)
      go_ret
      exact ⟨by simp; omega, (Chg.refl _ _).alloc _⟩
end Go.Proofs.Ytmliclfepnebfaa
