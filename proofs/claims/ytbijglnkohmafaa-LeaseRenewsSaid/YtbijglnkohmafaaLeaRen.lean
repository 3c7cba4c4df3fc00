
/-
  LeaseRenews: the walk of the law.
-/
import Derived.Test.YtbijglnkohmafaaLeaD
import Derived.Test.YtbijglnkohmafaaLeaK
namespace Go.Proofs.Ytbijglnkohmafaa
open Go.RowKit Go.Maps
set_option linter.unusedVariables false
attribute [local go_sem ↓] run_min2 run_max2

set_option maxRecDepth 100000 in
set_option maxHeartbeats 6400000 in
theorem leaseRenews_law (w : World) (s : St) (hs : (Lit.int .i64 s.m).wf = true ∧ (Lit.int .i64 s.c).wf = true) (u : Int) (hu : (Lit.int .i64 u).wf = true) (n : Int) (hn : (Lit.int .i64 n).wf = true) (o : Int) (ho : (Lit.int .i64 o).wf = true) :
    Calls Try.prog 5 #[.agg #[.int .i64 s.m, .int .i64 s.c], .int .i64 u, .int .i64 n, .int .i64 o] w fun e w' => e = .returned (.bool true) ∧ Chg [] w w' := by
  obtain ⟨m, c⟩ := s
  clear hs hu hn ho
  simp only
  have q0 : Hid (Chg [] w (w.alloc (.cells #[.int .i64 m, .int .i64 c] 29))) := (Chg.refl [] w).alloc _
  have z0 : Hid (At (w.alloc (.cells #[.int .i64 m, .int .i64 c] 29)) w.heap.size 29 #[.int .i64 m, .int .i64 c]) := At.new w _ _
  obtain ⟨x0, x1, _⟩ := z0.out.st
  by_cases hok : 0 ≤ u ∧ u ≤ 1099511627776 ∧ 0 ≤ n ∧ n ≤ 1099511627776 ∧ 0 ≤ o ∧ o ≤ 1099511627776 ∧ 0 ≤ m ∧ m ≤ 1099511627776 ∧ 0 ≤ c ∧ c ≤ 9
  rotate_left
  · cases c0 : decide (u < 0)
    rotate_left
    · go_enter Try.func5, Try.ntmps5
      go_wp2_with (fail)
      refine (knownLe_any _).mono ?_
      rintro e w9 ⟨rfl, hch9⟩
      go_wp2_with (fail)
      go_ret
      exact ⟨rfl, q0.out.trans hch9 (by simp)⟩
    cases c1 : decide ((1099511627776 : Int) < u)
    rotate_left
    · go_enter Try.func5, Try.ntmps5
      go_wp2_with (fail)
      refine (knownLe_any _).mono ?_
      rintro e w9 ⟨rfl, hch9⟩
      go_wp2_with (fail)
      go_ret
      exact ⟨rfl, q0.out.trans hch9 (by simp)⟩
    cases c2 : decide (n < 0)
    rotate_left
    · go_enter Try.func5, Try.ntmps5
      go_wp2_with (fail)
      refine (knownLe_any _).mono ?_
      rintro e w9 ⟨rfl, hch9⟩
      go_wp2_with (fail)
      go_ret
      exact ⟨rfl, q0.out.trans hch9 (by simp)⟩
    cases c3 : decide ((1099511627776 : Int) < n)
    rotate_left
    · go_enter Try.func5, Try.ntmps5
      go_wp2_with (fail)
      refine (knownLe_any _).mono ?_
      rintro e w9 ⟨rfl, hch9⟩
      go_wp2_with (fail)
      go_ret
      exact ⟨rfl, q0.out.trans hch9 (by simp)⟩
    cases c4 : decide (o < 0)
    rotate_left
    · go_enter Try.func5, Try.ntmps5
      go_wp2_with (fail)
      refine (knownLe_any _).mono ?_
      rintro e w9 ⟨rfl, hch9⟩
      go_wp2_with (fail)
      go_ret
      exact ⟨rfl, q0.out.trans hch9 (by simp)⟩
    cases c5 : decide ((1099511627776 : Int) < o)
    rotate_left
    · go_enter Try.func5, Try.ntmps5
      go_wp2_with (fail)
      refine (knownLe_any _).mono ?_
      rintro e w9 ⟨rfl, hch9⟩
      go_wp2_with (fail)
      go_ret
      exact ⟨rfl, q0.out.trans hch9 (by simp)⟩
    cases c6 : decide (m < 0)
    rotate_left
    · go_enter Try.func5, Try.ntmps5
      go_wp2_with (fail)
      refine (knownLe_any _).mono ?_
      rintro e w9 ⟨rfl, hch9⟩
      go_wp2_with (fail)
      go_ret
      exact ⟨rfl, q0.out.trans hch9 (by simp)⟩
    cases c7 : decide ((1099511627776 : Int) < m)
    rotate_left
    · go_enter Try.func5, Try.ntmps5
      go_wp2_with (fail)
      refine (knownLe_any _).mono ?_
      rintro e w9 ⟨rfl, hch9⟩
      go_wp2_with (fail)
      go_ret
      exact ⟨rfl, q0.out.trans hch9 (by simp)⟩
    cases c8 : decide (c < 0)
    rotate_left
    · go_enter Try.func5, Try.ntmps5
      go_wp2_with (fail)
      refine (knownLe_any _).mono ?_
      rintro e w9 ⟨rfl, hch9⟩
      go_wp2_with (fail)
      go_ret
      exact ⟨rfl, q0.out.trans hch9 (by simp)⟩
    cases c9 : decide ((9 : Int) < c)
    rotate_left
    · go_enter Try.func5, Try.ntmps5
      go_wp2_with (fail)
      refine (knownLe_any _).mono ?_
      rintro e w9 ⟨rfl, hch9⟩
      go_wp2_with (fail)
      go_ret
      exact ⟨rfl, q0.out.trans hch9 (by simp)⟩
    exfalso
    have d0 := of_decide_eq_false c0
    have d1 := of_decide_eq_false c1
    have d2 := of_decide_eq_false c2
    have d3 := of_decide_eq_false c3
    have d4 := of_decide_eq_false c4
    have d5 := of_decide_eq_false c5
    have d6 := of_decide_eq_false c6
    have d7 := of_decide_eq_false c7
    have d8 := of_decide_eq_false c8
    have d9 := of_decide_eq_false c9
    exact hok ⟨by omega, by omega, by omega, by omega, by omega, by omega, by omega, by omega, by omega, by omega⟩
  obtain ⟨k0, k1, k2, k3, k4, k5, k6, k7, k8, k9⟩ := hok
  have c0 : decide (u < 0) = false := decide_eq_false (by omega)
  have c1 : decide ((1099511627776 : Int) < u) = false := decide_eq_false (by omega)
  have c2 : decide (n < 0) = false := decide_eq_false (by omega)
  have c3 : decide ((1099511627776 : Int) < n) = false := decide_eq_false (by omega)
  have c4 : decide (o < 0) = false := decide_eq_false (by omega)
  have c5 : decide ((1099511627776 : Int) < o) = false := decide_eq_false (by omega)
  have c6 : decide (m < 0) = false := decide_eq_false (by omega)
  have c7 : decide ((1099511627776 : Int) < m) = false := decide_eq_false (by omega)
  have c8 : decide (c < 0) = false := decide_eq_false (by omega)
  have c9 : decide ((9 : Int) < c) = false := decide_eq_false (by omega)
  go_enter Try.func5, Try.ntmps5
  go_wp2_with (fail)
  clear x0 x1 c0 c1 c2 c3 c4 c5 c6 c7 c8 c9
  generalize w.alloc (.cells #[.int .i64 m, .int .i64 c] 29) = wb at *
  refine (lnew_all wb).mono ?_
  rintro e w1 ⟨gl, b, rfl, H1⟩
  have HH := Lib.hid H1
  obtain ⟨x0, x1, _⟩ := (z0.out.keep H1.chg (by simp)).st
  clear H1
  go_wp2_with (fail)
  refine (open_yes HH.out m c u (isS_iff.2 ⟨by omega, by omega, by omega, by omega⟩) k0 (by simp) (by omega) rfl).mono ?_
  rintro e w2 ⟨rfl, H2, _⟩
  clear HH x0 x1
  have HH : Hid (LsH wb w2 gl b [⟨0, m, c, u⟩] 1) := H2
  clear H2
  by_cases hnu : n < u
  · have hnb : decide (n < u) = true := decide_eq_true hnu
    go_wp2_with (fail)
    refine (renew_yes HH.out 0 n o (by decide) ⟨0, m, c, u⟩ rfl hnu (by simp)).mono ?_
    rintro e w3 ⟨rfl, H3, _⟩
    obtain ⟨E, hEq⟩ : ∃ E, Hid (max o u = E) := ⟨_, rfl⟩
    have hmx : max u o = E := by have := hEq.out; omega
    have hE1 : E ≤ 1099511627776 := by have := hEq.out; omega
    clear HH
    have HH : Hid (LsH wb w3 gl b [⟨0, m, c, E⟩] 1) := by rw [← hEq.out]; exact H3
    clear H3
    go_wp2_with (fail)
    refine (at_old HH.out 0 E (by decide) ⟨0, m, c, E⟩ rfl (Int.le_refl _)).mono ?_
    rintro e v1 ⟨rfl, hc1⟩
    have H := HH.out.k0 (hc1.alloc (.cells #[.int .i64 0, .int .i64 0] 29))
    clear HH
    have HH := Lib.hid H
    clear H hc1 k0 k1 k2 k3 k4 k5 k6 k7 k8 k9
    by_cases hE : 0 < E
    · have hEb : decide (0 < E) = true := decide_eq_true hE
      go_wp2_with (fail)
      refine (at_yes HH.out 0 (E - 1) (by decide) ⟨0, m, c, E⟩ rfl (by show E - 1 < E; omega)).mono ?_
      rintro e v2 ⟨rfl, hc2⟩
      have q2 := hc2.alloc (.cells #[.int .i64 m, .int .i64 c] 29)
      have z2 := At.new v2 29 #[.int .i64 m, .int .i64 c]
      have H := HH.out.k0 q2
      have zb := z0.out.keep H.chg (by simp)
      obtain ⟨x0, x1, _⟩ := zb.st
      obtain ⟨y0, y1, _⟩ := z2.st
      clear HH zb z2 q2 hc2
      have HH := Lib.hid H
      clear H
      go_wp2_with (fail)
      refine (expire_all HH.out E (by simp)).mono ?_
      rintro e v3 ⟨he, H, _⟩
      have hex : expL [(⟨0, m, c, E⟩ : LV)] E = [] := by simp [expL]
      rw [hex] at he H
      obtain rfl : e = .returned (.int .i64 1) := he
      clear HH
      have HH := Lib.hid H
      clear H
      go_wp2_with (fail)
      refine (renew_no HH.out 0 0 9 (by decide) rfl).mono ?_
      rintro e v4 ⟨rfl, hc4⟩
      have HC4 := Lib.hid (HH.out.chg.trans hc4 (by simp))
      go_wp2_with (fail)
      refine (knownLe_any _).mono ?_
      rintro e v5 ⟨rfl, hc5⟩
      go_wp2_with (fail)
      go_ret
      exact ⟨rfl, (q0.out.trans HC4.out (by simp)).trans hc5 (by simp)⟩
    · have hEb : decide (0 < E) = false := decide_eq_false hE
      clear hE hE1
      go_wp2_with (fail)
      refine (expire_all HH.out E (by simp)).mono ?_
      rintro e v3 ⟨he, H, _⟩
      have hex : expL [(⟨0, m, c, E⟩ : LV)] E = [] := by simp [expL]
      rw [hex] at he H
      obtain rfl : e = .returned (.int .i64 1) := he
      clear HH
      have HH := Lib.hid H
      clear H
      go_wp2_with (fail)
      refine (renew_no HH.out 0 0 9 (by decide) rfl).mono ?_
      rintro e v4 ⟨rfl, hc4⟩
      have HC4 := Lib.hid (HH.out.chg.trans hc4 (by simp))
      go_wp2_with (fail)
      refine (knownLe_any _).mono ?_
      rintro e v5 ⟨rfl, hc5⟩
      go_wp2_with (fail)
      go_ret
      exact ⟨rfl, (q0.out.trans HC4.out (by simp)).trans hc5 (by simp)⟩
  · have hnb : decide (n < u) = false := decide_eq_false hnu
    go_wp2_with (fail)
    refine (renew_old HH.out 0 n o (by decide) ⟨0, m, c, u⟩ rfl (by show u ≤ n; omega)).mono ?_
    rintro e w3 ⟨rfl, hc3⟩
    have H3 := HH.out.k0 hc3
    clear HH hc3
    have HH := Lib.hid H3
    clear H3
    obtain ⟨E, hEq⟩ : ∃ E, E = u := ⟨_, rfl⟩
    subst hEq
    have hE1 : E ≤ 1099511627776 := k1
    go_wp2_with (fail)
    refine (at_old HH.out 0 E (by decide) ⟨0, m, c, E⟩ rfl (Int.le_refl _)).mono ?_
    rintro e v1 ⟨rfl, hc1⟩
    have H := HH.out.k0 (hc1.alloc (.cells #[.int .i64 0, .int .i64 0] 29))
    clear HH
    have HH := Lib.hid H
    clear H hc1 k0 k1 k2 k3 k4 k5 k6 k7 k8 k9
    by_cases hE : 0 < E
    · have hEb : decide (0 < E) = true := decide_eq_true hE
      go_wp2_with (fail)
      refine (at_yes HH.out 0 (E - 1) (by decide) ⟨0, m, c, E⟩ rfl (by show E - 1 < E; omega)).mono ?_
      rintro e v2 ⟨rfl, hc2⟩
      have q2 := hc2.alloc (.cells #[.int .i64 m, .int .i64 c] 29)
      have z2 := At.new v2 29 #[.int .i64 m, .int .i64 c]
      have H := HH.out.k0 q2
      have zb := z0.out.keep H.chg (by simp)
      obtain ⟨x0, x1, _⟩ := zb.st
      obtain ⟨y0, y1, _⟩ := z2.st
      clear HH zb z2 q2 hc2
      have HH := Lib.hid H
      clear H
      go_wp2_with (fail)
      refine (expire_all HH.out E (by simp)).mono ?_
      rintro e v3 ⟨he, H, _⟩
      have hex : expL [(⟨0, m, c, E⟩ : LV)] E = [] := by simp [expL]
      rw [hex] at he H
      obtain rfl : e = .returned (.int .i64 1) := he
      clear HH
      have HH := Lib.hid H
      clear H
      go_wp2_with (fail)
      refine (renew_no HH.out 0 0 9 (by decide) rfl).mono ?_
      rintro e v4 ⟨rfl, hc4⟩
      have HC4 := Lib.hid (HH.out.chg.trans hc4 (by simp))
      go_wp2_with (fail)
      refine (knownLe_any _).mono ?_
      rintro e v5 ⟨rfl, hc5⟩
      go_wp2_with (fail)
      go_ret
      exact ⟨rfl, (q0.out.trans HC4.out (by simp)).trans hc5 (by simp)⟩
    · have hEb : decide (0 < E) = false := decide_eq_false hE
      clear hE hE1
      go_wp2_with (fail)
      refine (expire_all HH.out E (by simp)).mono ?_
      rintro e v3 ⟨he, H, _⟩
      have hex : expL [(⟨0, m, c, E⟩ : LV)] E = [] := by simp [expL]
      rw [hex] at he H
      obtain rfl : e = .returned (.int .i64 1) := he
      clear HH
      have HH := Lib.hid H
      clear H
      go_wp2_with (fail)
      refine (renew_no HH.out 0 0 9 (by decide) rfl).mono ?_
      rintro e v4 ⟨rfl, hc4⟩
      have HC4 := Lib.hid (HH.out.chg.trans hc4 (by simp))
      go_wp2_with (fail)
      refine (knownLe_any _).mono ?_
      rintro e v5 ⟨rfl, hc5⟩
      go_wp2_with (fail)
      go_ret
      exact ⟨rfl, (q0.out.trans HC4.out (by simp)).trans hc5 (by simp)⟩
end Go.Proofs.Ytbijglnkohmafaa
