
/-
  chain: what nothing answers; the two versions of 'known'.
-/
import Derived.Test.YtmliclfepnebfaaChS
import Derived.Test.YtmliclfepnebfaaSameL
namespace Go.Proofs.Ytmliclfepnebfaa
open Go.RowKit
set_option linter.unusedVariables false
set_option linter.unusedSimpArgs false
theorem upto_nil (w : World) (sm sc : Int) : Calls Try.prog 41 #[.pointer none, .agg #[.int .i64 sm, .int .i64 sc]] w fun e w' => e = .returned (.int .i64 0) ∧ Chg [] w w' := by
  go_enter Try.func41, Try.ntmps41
  go_wp2_with (fail)
  go_ret
  exact ⟨rfl, (Chg.refl [] w).alloc _⟩

theorem at_nil (w : World) (sm sc : Int) : Calls Try.prog 21 #[.pointer none, .agg #[.int .i64 sm, .int .i64 sc]] w fun e w' => e = .returned (.tuple #[.agg #[.int .i64 0, .int .i64 0, .int .i64 0, .slice none 0 0, .bool false, .int .i64 0], .bool false]) ∧ Chg [] w w' := by
  have HX := Lib.hid ((At.new w 25 #[.int .i64 sm, .int .i64 sc]).al (.cells #[.int .i64 0, .int .i64 0, .int .i64 0, .slice none 0 0, .bool false, .int .i64 0] 28))
  have HZ := Lib.hid (At.newG (w.alloc (.cells #[.int .i64 sm, .int .i64 sc] 25)) 28 #[.int .i64 0, .int .i64 0, .int .i64 0, .slice none 0 0, .bool false, .int .i64 0] (g := w.heap.size + 1) (by simp))
  have HQ := Lib.hid (((Chg.refl [] w).alloc (.cells #[.int .i64 sm, .int .i64 sc] 25)).alloc (.cells #[.int .i64 0, .int .i64 0, .int .i64 0, .slice none 0 0, .bool false, .int .i64 0] 28))
  have x0 := HX.out.cell 0
  have x1 := HX.out.cell 1
  have HUP := Lib.hid (upto_nil ((w.alloc (.cells #[.int .i64 sm, .int .i64 sc] 25)).alloc (.cells #[.int .i64 0, .int .i64 0, .int .i64 0, .slice none 0 0, .bool false, .int .i64 0] 28)) sm sc)
  go_enter Try.func21, Try.ntmps21
  go_wp2_with (fail)
  generalize hwz : (w.alloc (.cells #[.int .i64 sm, .int .i64 sc] 25)).alloc (.cells #[.int .i64 0, .int .i64 0, .int .i64 0, .slice none 0 0, .bool false, .int .i64 0] 28) = wz at *
  refine HUP.out.mono ?_
  rintro e w1 ⟨rfl, hc1⟩
  have HZ1 := Lib.hid (HZ.out.keep hc1 (by simp))
  have HC1 := Lib.hid (HQ.out.trans hc1 (by simp))
  clear HUP x0 x1 HX HZ HQ hc1
  generalize hg0 : w.heap.size + 1 = g0 at *
  have u0 := HZ1.out.cell 0
  have u1 := HZ1.out.cell 1
  have u2 := HZ1.out.cell 2
  have u3 := HZ1.out.cell 3
  have u4 := HZ1.out.cell 4
  have u5 := HZ1.out.cell 5
  have fu0 := HZ1.out.free 0
  have fu1 := HZ1.out.free 1
  have fu2 := HZ1.out.free 2
  have fu3 := HZ1.out.free 3
  have fu4 := HZ1.out.free 4
  have fu5 := HZ1.out.free 5
  simp only [List.getElem?_toArray, List.getElem?_cons_zero, List.getElem?_cons_succ] at u0 u1 u2 u3 u4 u5
  go_wp2_with (fail)
  refine ret_ver2 (g := g0) (T := 28) (cs := #[.int .i64 0, .int .i64 0, .int .i64 0, .slice none 0 0, .bool false, .int .i64 0]) (v := .bool false) rfl Try.results21 rfl rfl ?_ ?_
  · have h := (((((HZ1.out.set_ 0 (.int .i64 0)).set_ 1 (.int .i64 0)).set_ 2 (.int .i64 0)).set_ 3 (.slice none 0 0)).set_ 4 (.bool false)).set_ 5 (.int .i64 0)
    simpa using h
  · have q9 := ((((((Chg.refl [g0] w1).setCell (p := ⟨g0, 0, none⟩) (.inl (by simp)) (.int .i64 0)).setCell (p := ⟨g0, 1, none⟩) (.inl (by simp)) (.int .i64 0)).setCell (p := ⟨g0, 2, none⟩) (.inl (by simp)) (.int .i64 0)).setCell (p := ⟨g0, 3, none⟩) (.inl (by simp)) (.slice none 0 0)).setCell (p := ⟨g0, 4, none⟩) (.inl (by simp)) (.bool false)).setCell (p := ⟨g0, 5, none⟩) (.inl (by simp)) (.int .i64 0)
    exact ⟨rfl, HC1.out.trans q9 (by simp; omega)⟩
theorem get_nil (w : World) (sm sc : Int) : Calls Try.prog 23 #[.pointer none, .agg #[.int .i64 sm, .int .i64 sc]] w fun e w' => e = .returned (.tuple #[.slice none 0 0, .bool false]) ∧ Chg [] w w' := by
  have HX := Lib.hid (At.new w 25 #[.int .i64 sm, .int .i64 sc])
  have x0 := HX.out.cell 0
  have x1 := HX.out.cell 1
  have HAT := Lib.hid (at_nil (w.alloc (.cells #[.int .i64 sm, .int .i64 sc] 25)) sm sc)
  have HQ := Lib.hid ((Chg.refl [] w).alloc (.cells #[.int .i64 sm, .int .i64 sc] 25))
  go_enter Try.func23, Try.ntmps23
  go_wp2_with (fail)
  refine HAT.out.mono ?_
  rintro e w1 ⟨rfl, hc1⟩
  have HC1 : Hid (Chg [] w w1) := HQ.out.trans hc1 (by simp)
  clear HAT HQ HX x0 x1 hc1
  go_wp2_with (fail)
  go_ret2
  exact ⟨rfl, HC1.out.alloc _⟩
theorem trim_nil (w : World) (sm sc : Int) : Calls Try.prog 26 #[.pointer none, .agg #[.int .i64 sm, .int .i64 sc]] w fun e w' => e = .returned (.int .i64 0) ∧ Chg [] w w' := by
  have HX := Lib.hid (At.new w 25 #[.int .i64 sm, .int .i64 sc])
  have x0 := HX.out.cell 0
  have x1 := HX.out.cell 1
  have HUP := Lib.hid (upto_nil (w.alloc (.cells #[.int .i64 sm, .int .i64 sc] 25)) sm sc)
  have HQ := Lib.hid ((Chg.refl [] w).alloc (.cells #[.int .i64 sm, .int .i64 sc] 25))
  go_enter Try.func26, Try.ntmps26
  go_wp2_with (fail)
  refine HUP.out.mono ?_
  rintro e w1 ⟨rfl, hc1⟩
  have HC1 : Hid (Chg [] w w1) := HQ.out.trans hc1 (by simp)
  clear HUP HQ HX x0 x1 hc1
  have hgt : ¬ (0 : Int) < 0 := by omega
  go_upto_region 2 with (fail)
  have KK : Hid (∀ w', Chg [] w1 w' → True) := fun _ _ => trivial
  refine wp_region_held_drew (S := fun w' => True) (by kernel_rfl) ?_ (fun hHeld => ?_)
  · exact KK.out _ ((Chg.refl [] w1).drewN 1)
  refine takeW (i := 0) (d := (some 9)) (v := ?_) rfl rfl (by kernel_rfl) (by kernel_rfl) (by kernel_rfl) (fun _ _ _ h => h) (by rfl) ?_ (by assumption) ?_
  rotate_left
  · intro w' hSw; (try dsimp only at hSw); go_simp; try with_reducible rfl
  try simp only [Act.put, List.setIfInBounds_toArray, List.set_cons_zero, List.set_cons_succ]
  refine takeW (i := 1) (d := (some 10)) (v := ?_) rfl rfl (by kernel_rfl) (by kernel_rfl) (by kernel_rfl) (fun _ _ _ h => h) (by rfl) ?_ (by assumption) ?_
  rotate_left
  · intro w' hSw; (try dsimp only at hSw); go_simp; try with_reducible rfl
  try simp only [Act.put, List.setIfInBounds_toArray, List.set_cons_zero, List.set_cons_succ]
  refine takeW (i := 2) (d := (some 11)) (v := ?_) rfl rfl (by kernel_rfl) (by kernel_rfl) (by kernel_rfl) (fun _ _ _ h => h) (by rfl) ?_ (by assumption) ?_
  rotate_left
  · intro w' hSw; (try dsimp only at hSw); go_simp; try with_reducible rfl
  try simp only [Act.put, List.setIfInBounds_toArray, List.set_cons_zero, List.set_cons_succ]
  refine takeU (i := 3) (d := (some 12)) rfl rfl (by kernel_rfl) (by kernel_rfl) (by kernel_rfl) (fun _ _ _ h => h) (by rfl) (by assumption) ?_
  try simp only [Act.put, List.setIfInBounds_toArray, List.set_cons_zero, List.set_cons_succ]
  refine takeU (i := 4) (d := (some 13)) rfl rfl (by kernel_rfl) (by kernel_rfl) (by kernel_rfl) (fun _ _ _ h => h) (by rfl) (by assumption) ?_
  try simp only [Act.put, List.setIfInBounds_toArray, List.set_cons_zero, List.set_cons_succ]
  refine takeU (i := 5) (d := (some 14)) rfl rfl (by kernel_rfl) (by kernel_rfl) (by kernel_rfl) (fun _ _ _ h => h) (by rfl) (by assumption) ?_
  try simp only [Act.put, List.setIfInBounds_toArray, List.set_cons_zero, List.set_cons_succ]
  refine takeU (i := 6) (d := (some 15)) rfl rfl (by kernel_rfl) (by kernel_rfl) (by kernel_rfl) (fun _ _ _ h => h) (by rfl) (by assumption) ?_
  try simp only [Act.put, List.setIfInBounds_toArray, List.set_cons_zero, List.set_cons_succ]
  refine takeU (i := 7) (d := (some 16)) rfl rfl (by kernel_rfl) (by kernel_rfl) (by kernel_rfl) (fun _ _ _ h => h) (by rfl) (by assumption) ?_
  try simp only [Act.put, List.setIfInBounds_toArray, List.set_cons_zero, List.set_cons_succ]
  refine takeU (i := 8) (d := (some 17)) rfl rfl (by kernel_rfl) (by kernel_rfl) (by kernel_rfl) (fun _ _ _ h => h) (by rfl) (by assumption) ?_
  try simp only [Act.put, List.setIfInBounds_toArray, List.set_cons_zero, List.set_cons_succ]
  refine takeU (i := 9) (d := (some 18)) rfl rfl (by kernel_rfl) (by kernel_rfl) (by kernel_rfl) (fun _ _ _ h => h) (by rfl) (by assumption) ?_
  try simp only [Act.put, List.setIfInBounds_toArray, List.set_cons_zero, List.set_cons_succ]
  refine takeU (i := 10) (d := (some 19)) rfl rfl (by kernel_rfl) (by kernel_rfl) (by kernel_rfl) (fun _ _ _ h => h) (by rfl) (by assumption) ?_
  try simp only [Act.put, List.setIfInBounds_toArray, List.set_cons_zero, List.set_cons_succ]
  refine takeU (i := 11) (d := (some 20)) rfl rfl (by kernel_rfl) (by kernel_rfl) (by kernel_rfl) (fun _ _ _ h => h) (by rfl) (by assumption) ?_
  try simp only [Act.put, List.setIfInBounds_toArray, List.set_cons_zero, List.set_cons_succ]
  refine takeU (i := 12) (d := (some 21)) rfl rfl (by kernel_rfl) (by kernel_rfl) (by kernel_rfl) (fun _ _ _ h => h) (by rfl) (by assumption) ?_
  try simp only [Act.put, List.setIfInBounds_toArray, List.set_cons_zero, List.set_cons_succ]
  refine takeW (i := 13) (d := (some 22)) (v := ?_) rfl rfl (by kernel_rfl) (by kernel_rfl) (by kernel_rfl) (fun _ _ _ h => h) (by rfl) ?_ (by assumption) ?_
  rotate_left
  · intro w' hSw; (try dsimp only at hSw); go_simp; try with_reducible rfl
  try simp only [Act.put, List.setIfInBounds_toArray, List.set_cons_zero, List.set_cons_succ]
  refine wpAnyH_done (by kernel_rfl) ?_ _
  go_wp2_with (fail)
  go_ret
  exact ⟨rfl, HC1.out.trans ((Chg.refl [] w1).drewN 1) (by simp)⟩
theorem all_nil (w : World) : Calls Try.prog 28 #[.pointer none] w fun e w' => e = .returned (.slice none 0 0) ∧ Chg [] w w' := by
  go_enter Try.func28, Try.ntmps28
  go_wp2_with (fail)
  go_ret
  exact ⟨rfl, Chg.refl _ _⟩
theorem put_nil (w : World) (xm xc xo : Int) (xA : Option Addr) (xn xp : Nat) (xg : Bool) (xt : Int) : Calls Try.prog 15 #[.pointer none, .agg #[.int .i64 xm, .int .i64 xc, .int .i64 xo, .slice xA xn xp, .bool xg, .int .i64 xt]] w fun e w' => e = .returned (.int .i64 1) ∧ Chg [] w w' := by
  go_enter Try.func15, Try.ntmps15
  go_wp2_with (fail)
  go_ret
  exact ⟨rfl, (Chg.refl [] w).alloc _⟩
end Go.Proofs.Ytmliclfepnebfaa
