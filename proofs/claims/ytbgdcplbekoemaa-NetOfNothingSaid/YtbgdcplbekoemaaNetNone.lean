
/-
  NetOfNothing: the walk of the law.
-/
import Derived.Test.YtbgdcplbekoemaaNetK
namespace Go.Proofs.Ytbgdcplbekoemaa
open Go.RowKit
set_option linter.unusedVariables false

set_option maxRecDepth 100000 in
set_option maxHeartbeats 3200000 in
theorem netOfNothing_law (w : World) (a : Int) (ha : (Lit.int .i64 a).wf = true) (x : SlB) (hx : RdB w x ∧ x.bs.length ≤ x.c ∧ x.c ≤ maxLen ∧ x.bs.length ≤ 140737488351232 ∧ (x.A = none → x.c = 0)) :
    Calls Try.prog 8 #[.int .i64 a, x.val] w fun e w' => e = .returned (.bool true) ∧ Chg [] w w' := by
  obtain ⟨A, c, bs⟩ := x
  obtain ⟨rx, hxc, _, hxl, hnil⟩ := hx
  simp only at hxc hxl hnil
  have RX : Hid (Rd w 1 A bs.length (cB bs)) := rx
  have HNil := Lib.hid hnil
  clear rx hnil
  show Calls Try.prog 8 #[.int .i64 a, .slice A bs.length c] w _
  by_cases h8 : 8000 < bs.length
  · have h8b : decide ((8000 : Int) < (bs.length : Int)) = true := decide_eq_true (by omega)
    go_enter Try.func8, Try.ntmps8
    go_wp2_with (fail)
    go_ret
    exact ⟨rfl, Chg.refl _ _⟩
  · have h8b : decide ((8000 : Int) < (bs.length : Int)) = false := decide_eq_false (by omega)
    go_enter Try.func8, Try.ntmps8
    go_wp2_with (fail)
    refine (give_nil w a).mono ?_
    rintro e w1 ⟨rfl, hc1⟩
    have HC := Lib.hid hc1
    clear hc1
    go_wp2_with (fail)
    refine (send_nil (w := (w1.alloc (.cells #[.int .i64 0, .int .i64 0, .slice none 0 0] 35)).alloc (.cells #[.int .i64 0, .int .i64 0, .slice A bs.length c] 35)) (some ⟨w1.heap.size + 1, 0, none⟩) 1 1 [⟨0, 0, bs, A, c⟩] rfl ⟨Rd.new' (l := cMs [⟨0, 0, bs, A, c⟩]) (by simp) rfl (cMs_len _), fun x hx => ?_⟩ (by simp)).mono ?_
    · obtain rfl := List.mem_singleton.1 hx
      exact ⟨RX.out.keep0 ((HC.out.alloc _).alloc _), HNil.out, by show bs.length ≤ _; omega⟩
    rintro e w2 ⟨rfl, hc2⟩
    have HC2 : Hid (Chg [] w w2) := ((HC.out.alloc _).alloc _).trans hc2 (by simp)
    clear hc2 HC
    go_wp2_with (fail)
    refine (twice_nil w2 a).mono ?_
    rintro e w3 ⟨rfl, hc3⟩
    have HC3 : Hid (Chg [] w w3) := HC2.out.trans hc3 (by simp)
    clear hc3 HC2
    go_wp2_with (fail)
    refine (late_nil w3 a).mono ?_
    rintro e w4 ⟨rfl, hc4⟩
    have HC4 : Hid (Chg [] w w4) := HC3.out.trans hc4 (by simp)
    clear hc4 HC3
    go_wp2_with (fail)
    refine (spoil_nil w4 a a 1).mono ?_
    rintro e w5 ⟨rfl, hc5⟩
    have HC5 : Hid (Chg [] w w5) := HC4.out.trans hc5 (by simp)
    clear hc5 HC4
    go_wp2_with (fail)
    refine (len_nil w5).mono ?_
    rintro e w6 ⟨rfl, rfl⟩
    go_wp2_with (fail)
    refine (drop_nil _ _ _ _).mono ?_
    rintro e w7 ⟨rfl, hc7⟩
    have HC7 : Hid (Chg [] w w7) := (HC5.out.alloc _).trans hc7 (by simp)
    clear hc7 HC5
    go_wp2_with (fail)
    refine (knownN_any w7).mono ?_
    rintro e w8 ⟨rfl, hc8⟩
    go_wp2_with (fail)
    go_ret
    exact ⟨rfl, HC7.out.trans hc8 (by simp)⟩
end Go.Proofs.Ytbgdcplbekoemaa
