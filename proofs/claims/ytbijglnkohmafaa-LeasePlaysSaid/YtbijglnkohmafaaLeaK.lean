
/-
  lease: the answer that is known ahead.
-/
import Derived.Test.YtbijglnkohmafaaLeaC
namespace Go.Proofs.Ytbijglnkohmafaa
open Go.RowKit Go.Maps
set_option linter.unusedVariables false

set_option maxRecDepth 100000 in
set_option maxHeartbeats 3200000 in
theorem knownLe_any (w : World) : Calls Try.prog 8 #[] w fun e w' => e = .returned (.bool true) ∧ Chg [] w w' := by
  go_enter Try.func8, Try.ntmps8
  go_wp2_with (fail)
  refine (lnew_all w).mono ?_
  rintro e w1 ⟨gl, b, rfl, H1⟩
  have HH := Lib.hid H1
  clear H1
  go_wp2_with (fail)
  refine (open_yes HH.out 5 0 10 (by decide) (by omega) (by simp) (by omega) rfl).mono ?_
  rintro e w2 ⟨rfl, H2, _⟩
  clear HH
  have HH : Hid (LsH w w2 gl b [⟨0, 5, 0, 10⟩] 1) := H2
  clear H2
  go_wp2_with (fail)
  refine (at_yes HH.out 0 9 (by decide) ⟨0, 5, 0, 10⟩ rfl (by decide)).mono ?_
  rintro e w3 ⟨rfl, hc3⟩
  have q3 := hc3.trans ((Chg.refl [] w3).alloc (.cells #[.int .i64 5, .int .i64 0] 29)) (by simp)
  have H3 := Lib.hid (HH.out.k0 q3)
  have Z3 := Lib.hid (At.new w3 29 #[.int .i64 5, .int .i64 0])
  clear HH hc3 q3
  go_wp2_with (fail)
  refine (at_old H3.out 0 10 (by decide) ⟨0, 5, 0, 10⟩ rfl (by decide)).mono ?_
  rintro e w4 ⟨rfl, hc4⟩
  have q4 := hc4.trans ((Chg.refl [] w4).alloc (.cells #[.int .i64 0, .int .i64 0] 29)) (by simp)
  have H4 := Lib.hid (H3.out.k0 q4)
  have Z4 := Z3.out.keep q4 (by simp)
  obtain ⟨x0, x1, _⟩ := Z4.st
  clear H3 Z3 Z4 hc4 q4
  go_wp2_with (fail)
  refine (floor_all H4.out 7 0).mono ?_
  rintro e w5 ⟨f, rfl, hf, hc5⟩
  have hg : IsFloor [(⟨0, 5, 0, 10⟩ : LV)] ⟨7, 0⟩ ⟨5, 0⟩ := ⟨.inr ⟨_, List.mem_cons_self, rfl⟩, by decide, fun x hx => by
    obtain rfl := List.mem_singleton.1 hx; decide⟩
  obtain rfl := hf.uniq hg
  clear hf hg
  go_wp2_with (fail)
  go_ret
  exact ⟨rfl, (H4.out.k0 hc5).chg⟩
end Go.Proofs.Ytbijglnkohmafaa
