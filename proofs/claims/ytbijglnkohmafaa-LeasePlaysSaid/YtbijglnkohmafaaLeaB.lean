
/-
  lease: At, Renew.
-/
import Derived.Test.YtbijglnkohmafaaLeaA
namespace Go.Proofs.Ytbijglnkohmafaa
open Go.RowKit Go.Maps
set_option linter.unusedVariables false
attribute [local go_sem ↓] run_min2 run_max2

section
variable {w0 w w' : World} {gl b : Nat} {l : List LV} {nx : Nat}
set_option maxHeartbeats 1600000 in
theorem at_no (h : LsH w0 w gl b l nx) (k now : Int) (hk : (Lit.int .i64 k).wf = true) (hf : fndL l k = none) : Calls Try.prog 13 #[.pointer (some ⟨gl, 0, none⟩), .int .i64 k, .int .i64 now] w fun e w' => e = .returned (.tuple #[.agg #[.int .i64 0, .int .i64 0], .int .i64 7]) ∧ Chg [] w w' := by
  have z0 := At.new w 29 #[.int .i64 0, .int .i64 0]
  have q0 := (Chg.refl [] w).alloc (.cells #[.int .i64 0, .int .i64 0] 29)
  have H0 := h.k0 q0
  have c0 : (w.alloc (.cells #[.int .i64 0, .int .i64 0] 29)).cell? ⟨gl, 0, none⟩ = some (.map (some b)) := H0.at_.cell 0
  have hl := H0.map.look_no hk hf
  have y := At.newG (w.alloc (.cells #[.int .i64 0, .int .i64 0] 29)) 65 #[.int .i64 0, .int .i64 0, .int .i64 0] (g := w.heap.size + 1) (by simp)
  have y0 := y.cell 0
  have y1 := y.cell 1
  have y2 := y.cell 2
  have fz0 := z0.free 0
  have fz1 := z0.free 1
  have zz := z0.al (.cells #[.int .i64 0, .int .i64 0, .int .i64 0] 65)
  have x0 := zz.cell 0
  have x1 := zz.cell 1
  have fx0 := zz.free 0
  have fx1 := zz.free 1
  have x0' := z0.cell 0
  have x1' := z0.cell 1
  simp only [List.getElem?_toArray, List.getElem?_cons_zero, List.getElem?_cons_succ] at y0 y1 y2 x0 x1 x0' x1'
  clear hf
  clear h H0 y zz
  go_enter Try.func13, Try.ntmps13
  go_wp2_with (fail)
  refine ret_st2 (g := w.heap.size) (T := 29) (m := 0) (c := 0) Try.results13 rfl rfl ?_ ?_
  · exact (At.new _ _ _).al _
  · exact ⟨rfl, ((Chg.refl _ _).alloc _).alloc _⟩
set_option maxHeartbeats 1600000 in
theorem at_old (h : LsH w0 w gl b l nx) (k now : Int) (hk : (Lit.int .i64 k).wf = true) (x : LV) (hf : fndL l k = some x) (hu : x.u ≤ now) : Calls Try.prog 13 #[.pointer (some ⟨gl, 0, none⟩), .int .i64 k, .int .i64 now] w fun e w' => e = .returned (.tuple #[.agg #[.int .i64 0, .int .i64 0], .int .i64 19]) ∧ Chg [] w w' := by
  have z0 := At.new w 29 #[.int .i64 0, .int .i64 0]
  have q0 := (Chg.refl [] w).alloc (.cells #[.int .i64 0, .int .i64 0] 29)
  have H0 := h.k0 q0
  have c0 : (w.alloc (.cells #[.int .i64 0, .int .i64 0] 29)).cell? ⟨gl, 0, none⟩ = some (.map (some b)) := H0.at_.cell 0
  have hl := H0.map.look_yes hk hf
  have y := At.newG (w.alloc (.cells #[.int .i64 0, .int .i64 0] 29)) 65 #[.int .i64 x.m, .int .i64 x.c, .int .i64 x.u] (g := w.heap.size + 1) (by simp)
  have y0 := y.cell 0
  have y1 := y.cell 1
  have y2 := y.cell 2
  have fz0 := z0.free 0
  have fz1 := z0.free 1
  have zz := z0.al (.cells #[.int .i64 x.m, .int .i64 x.c, .int .i64 x.u] 65)
  have x0 := zz.cell 0
  have x1 := zz.cell 1
  have fx0 := zz.free 0
  have fx1 := zz.free 1
  have x0' := z0.cell 0
  have x1' := z0.cell 1
  simp only [List.getElem?_toArray, List.getElem?_cons_zero, List.getElem?_cons_succ] at y0 y1 y2 x0 x1 x0' x1'
  have hb1 : decide (x.u ≤ now) = true := decide_eq_true hu
  clear hf hu
  clear h H0 y zz
  go_enter Try.func13, Try.ntmps13
  go_wp2_with (fail)
  refine ret_st2 (g := w.heap.size) (T := 29) (m := 0) (c := 0) Try.results13 rfl rfl ?_ ?_
  · exact (At.new _ _ _).al _
  · exact ⟨rfl, ((Chg.refl _ _).alloc _).alloc _⟩
set_option maxHeartbeats 1600000 in
theorem at_yes (h : LsH w0 w gl b l nx) (k now : Int) (hk : (Lit.int .i64 k).wf = true) (x : LV) (hf : fndL l k = some x) (hu : now < x.u) : Calls Try.prog 13 #[.pointer (some ⟨gl, 0, none⟩), .int .i64 k, .int .i64 now] w fun e w' => e = .returned (.tuple #[.agg #[.int .i64 x.m, .int .i64 x.c], .int .i64 0]) ∧ Chg [] w w' := by
  have z0 := At.new w 29 #[.int .i64 0, .int .i64 0]
  have q0 := (Chg.refl [] w).alloc (.cells #[.int .i64 0, .int .i64 0] 29)
  have H0 := h.k0 q0
  have c0 : (w.alloc (.cells #[.int .i64 0, .int .i64 0] 29)).cell? ⟨gl, 0, none⟩ = some (.map (some b)) := H0.at_.cell 0
  have hl := H0.map.look_yes hk hf
  have y := At.newG (w.alloc (.cells #[.int .i64 0, .int .i64 0] 29)) 65 #[.int .i64 x.m, .int .i64 x.c, .int .i64 x.u] (g := w.heap.size + 1) (by simp)
  have y0 := y.cell 0
  have y1 := y.cell 1
  have y2 := y.cell 2
  have fz0 := z0.free 0
  have fz1 := z0.free 1
  have zz := z0.al (.cells #[.int .i64 x.m, .int .i64 x.c, .int .i64 x.u] 65)
  have x0 := zz.cell 0
  have x1 := zz.cell 1
  have fx0 := zz.free 0
  have fx1 := zz.free 1
  have x0' := z0.cell 0
  have x1' := z0.cell 1
  simp only [List.getElem?_toArray, List.getElem?_cons_zero, List.getElem?_cons_succ] at y0 y1 y2 x0 x1 x0' x1'
  have hb1 : decide (x.u ≤ now) = false := decide_eq_false (by omega)
  clear hf hu
  clear h H0 y zz
  go_enter Try.func13, Try.ntmps13
  go_wp2_with (fail)
  refine ret_st2 (g := w.heap.size) (T := 29) (m := x.m) (c := x.c) Try.results13 rfl rfl ?_ ?_
  · exact (At.new _ _ _).al _
  · exact ⟨rfl, ((Chg.refl _ _).alloc _).alloc _⟩

theorem at_nil (w : World) (k now : Int) : Calls Try.prog 13 #[.pointer none, .int .i64 k, .int .i64 now] w fun e w' => e = .returned (.tuple #[.agg #[.int .i64 0, .int .i64 0], .int .i64 1]) ∧ Chg [] w w' := by
  have z0 := At.new w 29 #[.int .i64 0, .int .i64 0]
  have x0 := z0.cell 0
  have x1 := z0.cell 1
  have fz0 := z0.free 0
  have fz1 := z0.free 1
  simp only [List.getElem?_toArray, List.getElem?_cons_zero, List.getElem?_cons_succ] at x0 x1
  go_enter Try.func13, Try.ntmps13
  go_wp2_with (fail)
  refine ret_st2 (g := w.heap.size) (T := 29) (m := 0) (c := 0) Try.results13 rfl rfl ?_ ?_
  · exact At.new _ _ _
  · exact ⟨rfl, (Chg.refl _ _).alloc _⟩
set_option maxHeartbeats 1600000 in
theorem renew_nil  (k now u : Int) : Calls Try.prog 18 #[.pointer none, .int .i64 k, .int .i64 now, .int .i64 u] w fun e w' => e = .returned (.int .i64 1) ∧ Chg [] w w' := by
  have HA := Lib.hid (at_nil w k now)
  go_enter Try.func18, Try.ntmps18
  go_wp2_with (fail)
  refine HA.out.mono ?_
  rintro e w1 ⟨rfl, hc⟩
  go_wp2_with (fail)
  go_ret
  exact ⟨rfl, hc.alloc _⟩
set_option maxHeartbeats 1600000 in
theorem renew_no (h : LsH w0 w gl b l nx) (k now u : Int) (hk : (Lit.int .i64 k).wf = true) (hf : fndL l k = none) : Calls Try.prog 18 #[.pointer (some ⟨gl, 0, none⟩), .int .i64 k, .int .i64 now, .int .i64 u] w fun e w' => e = .returned (.int .i64 7) ∧ Chg [] w w' := by
  have HA := Lib.hid (at_no h k now hk hf)
  go_enter Try.func18, Try.ntmps18
  go_wp2_with (fail)
  refine HA.out.mono ?_
  rintro e w1 ⟨rfl, hc⟩
  go_wp2_with (fail)
  go_ret
  exact ⟨rfl, hc.alloc _⟩
set_option maxHeartbeats 1600000 in
theorem renew_old (h : LsH w0 w gl b l nx) (k now u : Int) (hk : (Lit.int .i64 k).wf = true) (x : LV) (hf : fndL l k = some x) (hu : x.u ≤ now) : Calls Try.prog 18 #[.pointer (some ⟨gl, 0, none⟩), .int .i64 k, .int .i64 now, .int .i64 u] w fun e w' => e = .returned (.int .i64 19) ∧ Chg [] w w' := by
  have HA := Lib.hid (at_old h k now hk x hf hu)
  go_enter Try.func18, Try.ntmps18
  go_wp2_with (fail)
  refine HA.out.mono ?_
  rintro e w1 ⟨rfl, hc⟩
  go_wp2_with (fail)
  go_ret
  exact ⟨rfl, hc.alloc _⟩
theorem field_held (w : World) (m c u : Int) : (Instr.field 65 (.agg #[.int .i64 m, .int .i64 c, .int .i64 u]) 1).run Try.prog w = .ok (.int .i64 u) w := by kernel_rfl
set_option maxRecDepth 100000 in
set_option maxHeartbeats 3200000 in
theorem renew_yes (h : LsH w0 w gl b l nx) (k now u : Int) (hk : (Lit.int .i64 k).wf = true) (x : LV) (hf : fndL l k = some x) (hu : now < x.u) (hl : l.length ≤ 1000000) : Calls Try.prog 18 #[.pointer (some ⟨gl, 0, none⟩), .int .i64 k, .int .i64 now, .int .i64 u] w fun e w' => e = .returned (.int .i64 0) ∧ LsH w0 w' gl b (setL l k x.m x.c (max u x.u)) nx ∧ Chg [b] w w' := by
  have HA := Lib.hid (at_yes h k now hk x hf hu)
  have H := Lib.hid h
  have hgl : gl < w.heap.size := h.at_.lt
  have hbl : b < w.heap.size := h.map.lt
  have hne := h.ne
  clear h hu
  go_enter Try.func18, Try.ntmps18
  go_wp2_with (fail)
  refine HA.out.mono ?_
  rintro e w1 ⟨rfl, hc⟩
  have q1 := (Chg.refl [] w1).alloc (.cells #[.int .i64 x.m, .int .i64 x.c] 29)
  have hc1 : Hid (Chg [] w (w1.alloc (.cells #[.int .i64 x.m, .int .i64 x.c] 29))) := hc.trans q1 (by simp)
  have HZ := Lib.hid (At.new w1 29 #[.int .i64 x.m, .int .i64 x.c])
  have hs1 := hc.size
  go_upto_region 4 with (fail)
  generalize hgs : w1.heap.size = gs at *
  generalize w1.alloc (.cells #[.int .i64 x.m, .int .i64 x.c] 29) = wz at *
  have HW := Lib.hid (H.out.k0 hc1.out)
  have HD := Lib.hid (HW.out.k0 ((Chg.refl [] wz).drew))
  have hlk := HD.out.map.look1 hk hf
  have hfd := fun w => field_held w x.m x.c x.u
  obtain ⟨w9, hr, hM9, hc9b⟩ := HD.out.map.put_old (m := x.m) (c := x.c) (u := max u x.u) hk hf (by unfold maxLen; omega)
  have hc9 : Chg [b] wz w9 := ((Chg.refl [b] wz).drew).trans hc9b (by simp)
  obtain ⟨xi, xm, xc, xu⟩ := x
  simp only at hlk hr HZ hfd
  have KK : Hid (∀ w', Chg [b] wz w' → w'.cell? ⟨gl, 0, none⟩ = some (.map (some b)) ∧ w'.cell? ⟨gs, 0, none⟩ = some (.int .i64 xm) ∧ w'.cell? ⟨gs, 1, none⟩ = some (.int .i64 xc)) := fun w' hc => ⟨(HW.out.at_.keep hc (by simpa using hne)).cell 0, (HZ.out.keep hc (by simp; omega)).cell 0, (HZ.out.keep hc (by simp; omega)).cell 1⟩
  clear hf q1 hc
  refine wp_region_held_drew (S := fun w' => w'.cell? ⟨gl, 0, none⟩ = some (.map (some b)) ∧ w'.cell? ⟨gs, 0, none⟩ = some (.int .i64 xm) ∧ w'.cell? ⟨gs, 1, none⟩ = some (.int .i64 xc)) (by kernel_rfl) ?_ (fun hHeld => ?_)
  · exact KK.out _ ((Chg.refl [b] wz).drew)
  refine takeW (i := 0) (d := (some 21)) (v := ?_) rfl rfl (by kernel_rfl) (by kernel_rfl) (by kernel_rfl) (fun _ _ _ h => h) (by rfl) ?_ (by assumption) ?_
  rotate_left
  · intro w' hSw; (try dsimp only at hSw); go_simp; try with_reducible rfl
  try simp only [Act.put, List.setIfInBounds_toArray, List.set_cons_zero, List.set_cons_succ]
  refine takeW (i := 1) (d := (some 22)) (v := ?_) rfl rfl (by kernel_rfl) (by kernel_rfl) (by kernel_rfl) (fun _ _ _ h => h) (by rfl) ?_ (by assumption) ?_
  rotate_left
  · intro w' hSw; (try dsimp only at hSw); go_simp; try with_reducible rfl
  try simp only [Act.put, List.setIfInBounds_toArray, List.set_cons_zero, List.set_cons_succ]
  refine takeW (i := 2) (d := (some 23)) (v := ?_) rfl rfl (by kernel_rfl) (by kernel_rfl) (by kernel_rfl) (fun _ _ _ h => h) (by rfl) ?_ (by assumption) ?_
  rotate_left
  · intro w' hSw; (try dsimp only at hSw); go_simp; try with_reducible rfl
  try simp only [Act.put, List.setIfInBounds_toArray, List.set_cons_zero, List.set_cons_succ]
  refine takeW (i := 3) (d := (some 24)) (v := ?_) rfl rfl (by kernel_rfl) (by kernel_rfl) (by kernel_rfl) (fun _ _ _ h => h) (by rfl) ?_ (by assumption) ?_
  rotate_left
  · intro w' hSw; (try dsimp only at hSw); go_simp; try with_reducible rfl
  try simp only [Act.put, List.setIfInBounds_toArray, List.set_cons_zero, List.set_cons_succ]
  refine takeW (i := 4) (d := (some 25)) (v := ?_) rfl rfl (by kernel_rfl) (by kernel_rfl) (by kernel_rfl) (fun _ _ _ h => h) (by rfl) ?_ (by assumption) ?_
  rotate_left
  · intro w' hSw; (try dsimp only at hSw); go_simp; try with_reducible rfl
  try simp only [Act.put, List.setIfInBounds_toArray, List.set_cons_zero, List.set_cons_succ]
  refine takeW (i := 5) (d := (some 26)) (v := ?_) rfl rfl (by kernel_rfl) (by kernel_rfl) (by kernel_rfl) (fun _ _ _ h => h) (by rfl) ?_ (by assumption) ?_
  rotate_left
  · intro w' hSw; (try dsimp only at hSw); go_simp; try with_reducible rfl
  try simp only [Act.put, List.setIfInBounds_toArray, List.set_cons_zero, List.set_cons_succ]
  refine takeW (i := 6) (d := (some 27)) (v := ?_) rfl rfl (by kernel_rfl) (by kernel_rfl) (by kernel_rfl) (fun _ _ _ h => h) (by rfl) ?_ (by assumption) ?_
  rotate_left
  · intro w' hSw; (try dsimp only at hSw); go_simp; try with_reducible rfl
  try simp only [Act.put, List.setIfInBounds_toArray, List.set_cons_zero, List.set_cons_succ]
  refine takeW (i := 7) (d := (some 28)) (v := ?_) rfl rfl (by kernel_rfl) (by kernel_rfl) (by kernel_rfl) (fun _ _ _ h => h) (by rfl) ?_ (by assumption) ?_
  rotate_left
  · intro w' hSw; (try dsimp only at hSw); go_simp; try with_reducible rfl
  try simp only [Act.put, List.setIfInBounds_toArray, List.set_cons_zero, List.set_cons_succ]
  refine takeW (i := 8) (d := (some 29)) (v := ?_) rfl rfl (by kernel_rfl) (by kernel_rfl) (by kernel_rfl) (fun _ _ _ h => h) (by rfl) ?_ (by assumption) ?_
  rotate_left
  · intro w' hSw; (try dsimp only at hSw); go_simp; try with_reducible rfl
  try simp only [Act.put, List.setIfInBounds_toArray, List.set_cons_zero, List.set_cons_succ]
  refine takeW (i := 9) (d := (some 30)) (v := ?_) rfl rfl (by kernel_rfl) (by kernel_rfl) (by kernel_rfl) (fun _ _ _ h => h) (by rfl) ?_ (by assumption) ?_
  rotate_left
  · intro w' hSw; (try dsimp only at hSw); go_simp; try with_reducible rfl
  try simp only [Act.put, List.setIfInBounds_toArray, List.set_cons_zero, List.set_cons_succ]
  refine takeW (i := 10) (d := (some 31)) (v := ?_) rfl rfl (by kernel_rfl) (by kernel_rfl) (by kernel_rfl) (fun _ _ _ h => h) (by rfl) ?_ (by assumption) ?_
  rotate_left
  · intro w' hSw; (try dsimp only at hSw); go_simp; try with_reducible rfl
  try simp only [Act.put, List.setIfInBounds_toArray, List.set_cons_zero, List.set_cons_succ]
  refine takeW (i := 11) (d := (some 32)) (v := ?_) rfl rfl (by kernel_rfl) (by kernel_rfl) (by kernel_rfl) (fun _ _ _ h => h) (by rfl) ?_ (by assumption) ?_
  rotate_left
  · intro w' hSw; (try dsimp only at hSw); go_simp; try with_reducible rfl
  try simp only [Act.put, List.setIfInBounds_toArray, List.set_cons_zero, List.set_cons_succ]
  refine wpAnyH_ready (rs := [12]) (by kernel_rfl) (by simp) ?_
  refine AllReadyH.cons rfl (fun K hK => ?_) AllReadyH.nil
  go_simp
  go_wp2_with (fail)
  refine hK.out _ _ ?_ (fun hHeld => ?_)
  · exact KK.out _ ((Chg.refl [b] wz).drew)
  clear hK K
  try simp only [Act.put, List.setIfInBounds_toArray, List.set_cons_zero, List.set_cons_succ]
  refine takeW (i := 13) (d := (some 34)) (v := ?_) rfl rfl (by kernel_rfl) (by kernel_rfl) (by kernel_rfl) (fun _ _ _ h => h) (by rfl) ?_ (by assumption) ?_
  rotate_left
  · intro w' hSw; (try dsimp only at hSw); go_simp; try with_reducible rfl
  try simp only [Act.put, List.setIfInBounds_toArray, List.set_cons_zero, List.set_cons_succ]
  refine takeW (i := 14) (d := (some 35)) (v := ?_) rfl rfl (by kernel_rfl) (by kernel_rfl) (by kernel_rfl) (fun _ _ _ h => h) (by rfl) ?_ (by assumption) ?_
  rotate_left
  · intro w' hSw; (try dsimp only at hSw); go_simp; try with_reducible rfl
  try simp only [Act.put, List.setIfInBounds_toArray, List.set_cons_zero, List.set_cons_succ]
  refine takeW (i := 15) (d := (some 36)) (v := ?_) rfl rfl (by kernel_rfl) (by kernel_rfl) (by kernel_rfl) (fun _ _ _ h => h) (by rfl) ?_ (by assumption) ?_
  rotate_left
  · intro w' hSw; (try dsimp only at hSw); go_simp; try with_reducible rfl
  try simp only [Act.put, List.setIfInBounds_toArray, List.set_cons_zero, List.set_cons_succ]
  refine wpAnyH_ready (rs := [16]) (by kernel_rfl) (by simp) ?_
  refine AllReadyH.cons rfl (fun K hK => ?_) AllReadyH.nil
  go_simp
  go_wp2_with (fail)
  refine hK.out _ _ ?_ (fun hHeld => ?_)
  · exact KK.out _ hc9
  clear hK K
  try simp only [Act.put, List.setIfInBounds_toArray, List.set_cons_zero, List.set_cons_succ]
  refine wpAnyH_done (by kernel_rfl) ?_ _
  go_wp2_with (fail)
  go_ret
  exact ⟨rfl, ⟨HW.out.at_.keep hc9 (by simpa using hne), hM9, HW.out.new, HW.out.chg.trans hc9 (by have := HW.out.new; simp; omega)⟩, (hc1.out.mono (by simp)).trans hc9 (by simp)⟩
end
end Go.Proofs.Ytbijglnkohmafaa
