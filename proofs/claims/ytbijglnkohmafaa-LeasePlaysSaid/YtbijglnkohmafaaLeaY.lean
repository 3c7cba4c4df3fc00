
/-
  lease: the reference: Open, drop.
-/
import Derived.Test.YtbijglnkohmafaaLeaX
import Derived.Test.YtbijglnkohmafaaHeldE
import Derived.Test.YtbijglnkohmafaaHlcR
namespace Go.Proofs.Ytbijglnkohmafaa
open Go.RowKit Go.Maps
set_option linter.unusedVariables false
set_option linter.unusedSimpArgs false
attribute [local go_sem ↓] run_min2 run_max2
section
variable {w0 w w' : World} {gx : Nat} {A : Option Addr} {c : Nat} {l : List LV} {nx : Nat}
set_option maxHeartbeats 1600000 in
theorem xopen_arg (w : World) (gx : Nat) (m cc u : Int) (hno : isS m cc = false ∨ u < 0) : Calls Try.prog 19 #[.pointer (some ⟨gx, 0, none⟩), .agg #[.int .i64 m, .int .i64 cc], .int .i64 u] w fun e w' => e = .returned (.tuple #[.int .i64 0, .int .i64 1]) ∧ Chg [] w w' := by
  have z0 := At.new w 29 #[.int .i64 m, .int .i64 cc]
  obtain ⟨x0, x1, _⟩ := z0.st
  have q0 := (Chg.refl [] w).alloc (.cells #[.int .i64 m, .int .i64 cc] 29)
  cases hs : isS m cc
  · have HP := Lib.hid (fun w => refIs_no m cc w hs)
    clear hno hs
    go_enter Try.func19, Try.ntmps19
    go_wp2_with (fail)
    refine (HP.out _).mono ?_
    rintro e w1 ⟨rfl, hc⟩
    go_wp2_with (fail)
    go_ret2
    exact ⟨rfl, q0.trans hc (by simp)⟩
  · have hu : decide (u < 0) = true := decide_eq_true (by
      rcases hno with h | h
      · rw [hs] at h; cases h
      · exact h)
    have HP := Lib.hid (fun w => refIs_yes m cc w hs)
    clear hno hs
    go_enter Try.func19, Try.ntmps19
    go_wp2_with (fail)
    refine (HP.out _).mono ?_
    rintro e w1 ⟨rfl, hc⟩
    go_wp2_with (fail)
    go_ret2
    exact ⟨rfl, q0.trans hc (by simp)⟩
set_option maxHeartbeats 1600000 in
theorem xopen_full (h : LxH w0 w gx A c l nx) (m cc u : Int) (hs : isS m cc = true) (h0 : 0 ≤ u) (hl : 64 ≤ l.length) (hl2 : l.length ≤ 1000000) : Calls Try.prog 19 #[.pointer (some ⟨gx, 0, none⟩), .agg #[.int .i64 m, .int .i64 cc], .int .i64 u] w fun e w' => e = .returned (.tuple #[.int .i64 0, .int .i64 6]) ∧ Chg [] w w' := by
  have z0 := At.new w 29 #[.int .i64 m, .int .i64 cc]
  obtain ⟨x0, x1, _⟩ := z0.st
  have q0 := (Chg.refl [] w).alloc (.cells #[.int .i64 m, .int .i64 cc] 29)
  have hu : decide (u < 0) = false := decide_eq_false (by omega)
  have HP := Lib.hid (fun w => refIs_yes m cc w hs)
  have H := Lib.hid h
  have hlb : decide ((64 : Int) ≤ (l.length : Int)) = true := decide_eq_true (by omega)
  clear h hs h0
  go_enter Try.func19, Try.ntmps19
  go_wp2_with (fail)
  refine (HP.out _).mono ?_
  rintro e w1 ⟨rfl, hc⟩
  have H1 := H.out.k0 (q0.trans hc (by simp))
  have c0 : w1.cell? ⟨gx, 0, none⟩ = some (.slice A l.length c) := H1.at_.cell 0
  clear H1
  go_wp2_with (fail)
  go_ret2
  exact ⟨rfl, q0.trans hc (by simp)⟩
set_option maxRecDepth 100000 in
set_option maxHeartbeats 3200000 in
theorem xopen_yes (h : LxH w0 w gx A c l nx) (m cc u : Int) (hs : isS m cc = true) (h0 : 0 ≤ u) (hl : l.length < 64) (hnx : nx ≤ 1099511627776) : Calls Try.prog 19 #[.pointer (some ⟨gx, 0, none⟩), .agg #[.int .i64 m, .int .i64 cc], .int .i64 u] w fun e w' => ∃ A' c', e = .returned (.tuple #[.int .i64 (nx : Int), .int .i64 0]) ∧ LxH w0 w' gx A' c' (l ++ [⟨nx, m, cc, u⟩]) (nx + 1) ∧ Chg (gx :: blk A) w w' ∧ (∀ j ∈ blk A', j ∈ blk A ∨ w.heap.size ≤ j) := by
  have z0 := At.new w 29 #[.int .i64 m, .int .i64 cc]
  obtain ⟨x0, x1, _⟩ := z0.st
  have q0 := (Chg.refl [] w).alloc (.cells #[.int .i64 m, .int .i64 cc] 29)
  obtain ⟨i1, hi1, hy0, hy1, hy2⟩ := info_parts info_lea
  have hu : decide (u < 0) = false := decide_eq_false (by omega)
  have HP := Lib.hid (fun w => refIs_yes m cc w hs)
  have H0 := Lib.hid h
  have hlb : decide ((64 : Int) ≤ (l.length : Int)) = false := decide_eq_false (by omega)
  clear h hs h0
  go_enter Try.func19, Try.ntmps19
  go_wp2_with (fail)
  refine (HP.out _).mono ?_
  rintro e wz ⟨rfl, hc⟩
  have HCZ : Hid (Chg [] w wz) := q0.trans hc (by simp)
  have HZ := Lib.hid (H0.out.k0 HCZ.out)
  have HSZ := Lib.hid (z0.keep hc (by simp))
  have c0 : wz.cell? ⟨gx, 0, none⟩ = some (.slice A l.length c) := HZ.out.at_.cell 0
  clear q0 z0 x0 x1 hc HP
  generalize hg0 : w.heap.size = g0 at *
  go_upto_region 5 with (fail)
  rw [← hg0] at *
  generalize hg0 : w.heap.size = g0 at HSZ ⊢
  clear c0
  have KK : Hid (∀ w', Chg [] wz w' → w'.cell? ⟨gx, 0, none⟩ = some (.slice A l.length c) ∧ w'.cell? ⟨gx, 1, none⟩ = some (.int .i64 (nx : Int)) ∧ w'.cell? ⟨g0, 0, none⟩ = some (.int .i64 m) ∧ w'.cell? ⟨g0, 1, none⟩ = some (.int .i64 cc)) := fun w' hc => ⟨(HZ.out.at_.keep hc (by simp)).cell 0, (HZ.out.at_.keep hc (by simp)).cell 1, (HSZ.out.keep hc (by simp)).cell 0, (HSZ.out.keep hc (by simp)).cell 1⟩
  refine wp_regionE 16 (fun w' => w'.cell? ⟨gx, 0, none⟩ = some (.slice A l.length c) ∧ w'.cell? ⟨gx, 1, none⟩ = some (.int .i64 (nx : Int)) ∧ w'.cell? ⟨g0, 0, none⟩ = some (.int .i64 m) ∧ w'.cell? ⟨g0, 1, none⟩ = some (.int .i64 cc)) (by kernel_rfl) ?_ (fun hHeld => ?_)
  · exact KK.out _ ((Chg.refl [] wz).drew)
  have HDR : Chg [] wz wz.drew := (Chg.refl [] wz).drew
  have HD : Hid (LxH w0 wz.drew gx A c l nx) := HZ.out.k0 HDR
  have HS : Hid (At wz.drew g0 29 #[.int .i64 m, .int .i64 cc]) := HSZ.out.keep HDR (by simp)
  have HCD : Hid (Chg [] w wz.drew) := HCZ.out.trans HDR (by simp)
  clear HDR KK HZ HSZ HCZ
  generalize wz.drew = wd at *
  have KD : Hid (∀ w', Chg [] wd w' → w'.cell? ⟨gx, 0, none⟩ = some (.slice A l.length c) ∧ w'.cell? ⟨gx, 1, none⟩ = some (.int .i64 (nx : Int)) ∧ w'.cell? ⟨g0, 0, none⟩ = some (.int .i64 m) ∧ w'.cell? ⟨g0, 1, none⟩ = some (.int .i64 cc)) := fun w' hc => ⟨(HD.out.at_.keep hc (by simp)).cell 0, (HD.out.at_.keep hc (by simp)).cell 1, (HS.out.keep hc (by simp)).cell 0, (HS.out.keep hc (by simp)).cell 1⟩
  refine takeWE (i := 0) (d := (some 21)) (v := ?_) rfl rfl (by kernel_rfl) (by kernel_rfl) (by kernel_rfl) (by kernel_rfl) (by kernel_rfl) (fun _ _ _ h => h) (by rfl) ?_ (by assumption) ?_
  rotate_left
  · intro w' hSw; (try dsimp only at hSw); go_simp; try with_reducible rfl
  try simp only [Act.put, List.setIfInBounds_toArray, List.set_cons_zero, List.set_cons_succ]
  refine takeWE (i := 1) (d := (some 22)) (v := ?_) rfl rfl (by kernel_rfl) (by kernel_rfl) (by kernel_rfl) (by kernel_rfl) (by kernel_rfl) (fun _ _ _ h => h) (by rfl) ?_ (by assumption) ?_
  rotate_left
  · intro w' hSw; (try dsimp only at hSw); go_simp; try with_reducible rfl
  try simp only [Act.put, List.setIfInBounds_toArray, List.set_cons_zero, List.set_cons_succ]
  refine takeWE (i := 2) (d := (some 23)) (v := ?_) rfl rfl (by kernel_rfl) (by kernel_rfl) (by kernel_rfl) (by kernel_rfl) (by kernel_rfl) (fun _ _ _ h => h) (by rfl) ?_ (by assumption) ?_
  rotate_left
  · intro w' hSw; (try dsimp only at hSw); go_simp; try with_reducible rfl
  try simp only [Act.put, List.setIfInBounds_toArray, List.set_cons_zero, List.set_cons_succ]
  refine takeWE (i := 3) (d := (some 24)) (v := ?_) rfl rfl (by kernel_rfl) (by kernel_rfl) (by kernel_rfl) (by kernel_rfl) (by kernel_rfl) (fun _ _ _ h => h) (by rfl) ?_ (by assumption) ?_
  rotate_left
  · intro w' hSw; (try dsimp only at hSw); go_simp; try with_reducible rfl
  try simp only [Act.put, List.setIfInBounds_toArray, List.set_cons_zero, List.set_cons_succ]
  refine takeWE (i := 4) (d := (some 25)) (v := ?_) rfl rfl (by kernel_rfl) (by kernel_rfl) (by kernel_rfl) (by kernel_rfl) (by kernel_rfl) (fun _ _ _ h => h) (by rfl) ?_ (by assumption) ?_
  rotate_left
  · intro w' hSw; (try dsimp only at hSw); go_simp; try with_reducible rfl
  try simp only [Act.put, List.setIfInBounds_toArray, List.set_cons_zero, List.set_cons_succ]
  refine takeWE (i := 5) (d := (some 26)) (v := ?_) rfl rfl (by kernel_rfl) (by kernel_rfl) (by kernel_rfl) (by kernel_rfl) (by kernel_rfl) (fun _ _ _ h => h) (by rfl) ?_ (by assumption) ?_
  rotate_left
  · intro w' hSw; (try dsimp only at hSw); go_simp; try with_reducible rfl
  try simp only [Act.put, List.setIfInBounds_toArray, List.set_cons_zero, List.set_cons_succ]
  refine takeWE (i := 6) (d := (some 27)) (v := ?_) rfl rfl (by kernel_rfl) (by kernel_rfl) (by kernel_rfl) (by kernel_rfl) (by kernel_rfl) (fun _ _ _ h => h) (by rfl) ?_ (by assumption) ?_
  rotate_left
  · intro w' hSw; (try dsimp only at hSw); go_simp; try with_reducible rfl
  try simp only [Act.put, List.setIfInBounds_toArray, List.set_cons_zero, List.set_cons_succ]
  refine takeWE (i := 7) (d := (some 28)) (v := ?_) rfl rfl (by kernel_rfl) (by kernel_rfl) (by kernel_rfl) (by kernel_rfl) (by kernel_rfl) (fun _ _ _ h => h) (by rfl) ?_ (by assumption) ?_
  rotate_left
  · intro w' hSw; (try dsimp only at hSw); go_simp; try with_reducible rfl
  try simp only [Act.put, List.setIfInBounds_toArray, List.set_cons_zero, List.set_cons_succ]
  refine takeWE (i := 8) (d := (some 29)) (v := ?_) rfl rfl (by kernel_rfl) (by kernel_rfl) (by kernel_rfl) (by kernel_rfl) (by kernel_rfl) (fun _ _ _ h => h) (by rfl) ?_ (by assumption) ?_
  rotate_left
  · intro w' hSw; (try dsimp only at hSw); go_simp; try with_reducible rfl
  try simp only [Act.put, List.setIfInBounds_toArray, List.set_cons_zero, List.set_cons_succ]
  refine takeWE (i := 9) (d := (some 30)) (v := ?_) rfl rfl (by kernel_rfl) (by kernel_rfl) (by kernel_rfl) (by kernel_rfl) (by kernel_rfl) (fun _ _ _ h => h) (by rfl) ?_ (by assumption) ?_
  rotate_left
  · intro w' hSw; (try dsimp only at hSw); go_simp; try with_reducible rfl
  try simp only [Act.put, List.setIfInBounds_toArray, List.set_cons_zero, List.set_cons_succ]
  refine takeWE (i := 10) (d := (some 31)) (v := ?_) rfl rfl (by kernel_rfl) (by kernel_rfl) (by kernel_rfl) (by kernel_rfl) (by kernel_rfl) (fun _ _ _ h => h) (by rfl) ?_ (by assumption) ?_
  rotate_left
  · intro w' hSw; (try dsimp only at hSw); go_simp; try with_reducible rfl
  try simp only [Act.put, List.setIfInBounds_toArray, List.set_cons_zero, List.set_cons_succ]
  refine takeWE (i := 11) (d := (some 32)) (v := ?_) rfl rfl (by kernel_rfl) (by kernel_rfl) (by kernel_rfl) (by kernel_rfl) (by kernel_rfl) (fun _ _ _ h => h) (by rfl) ?_ (by assumption) ?_
  rotate_left
  · intro w' hSw; (try dsimp only at hSw); go_simp; try with_reducible rfl
  try simp only [Act.put, List.setIfInBounds_toArray, List.set_cons_zero, List.set_cons_succ]
  refine wpE_ready (rs := [12]) (by kernel_rfl) (by simp) ?_
  refine AllE.cons rfl (fun K hK => ?_) (AllE.nil)
  go_simp
  go_wp2_with (fail)
  refine hK.out _ _ ?_ (fun hHeld => ?_)
  · exact KD.out _ ((Chg.refl [] wd).alloc _)
  clear hK K
  try simp only [Act.put, List.setIfInBounds_toArray, List.set_cons_zero, List.set_cons_succ]
  refine wpE_ready (rs := [13]) (by kernel_rfl) (by simp) ?_
  refine AllE.cons rfl (fun K hK => ?_) (AllE.nil)
  refine wp_append_rd _ (.tmp 25) (.tmp 33) 46 (by rfl) w0.heap.size 70 i1 _ 4 32 Try.underlying46 hi1 hy0 hy1 hy2 rfl (by omega) (.slice A l.length c) l.length (cLV l) (by simp [Act.eval, Act.put]) (own_k0 HD.out.row ((Chg.refl [] wd).alloc _)) (some ⟨wd.heap.size, 0, none⟩) 1 1 (cLV [⟨nx, m, cc, u⟩]) (by simp [Act.eval, Act.put]) (Rd.new' rfl rfl rfl) (cLV_one _) (by unfold maxLen; omega) (by omega) (by have := HD.out.chg.size; simp; omega) ?_
  intro A6 c6 w6 hown6 hg6 hb6
  have g6 : Chg (blk A) (wd.alloc (.cells #[.int .i64 (nx : Int), .int .i64 m, .int .i64 cc, .int .i64 u] 70)) w6 := (Chg.of_grown hg6).mono (by rw [own_blk]; exact fun _ h => .inl h)
  have qd : Chg [] wd (wd.alloc (.cells #[.int .i64 (nx : Int), .int .i64 m, .int .i64 cc, .int .i64 u] 70)) := (Chg.refl [] wd).alloc _
  have hgA : gx ∉ blk A := fun hm => own_at_ne HD.out.row HD.out.at_ (by decide) gx (ob A l.length c gx hm) rfl
  have x6 := Lib.hid ((HD.out.at_.keep qd (by simp)).keep g6 hgA)
  have s6 := Lib.hid ((HS.out.keep qd (by simp)).keep g6 (fun hm => own_at_ne HD.out.row HS.out (by decide) g0 (ob A l.length c g0 hm) rfl))
  have fx0 := x6.out.free 0
  have fx1 := x6.out.free 1
  refine hK.out _ _ ?_ (fun hHeld => ?_)
  · exact ⟨x6.out.cell 0, x6.out.cell 1, s6.out.cell 0, s6.out.cell 1⟩
  clear hK K
  try simp only [Act.put, List.setIfInBounds_toArray, List.set_cons_zero, List.set_cons_succ]
  refine takeWE (i := 14) (d := (some 35)) (v := ?_) rfl rfl (by kernel_rfl) (by kernel_rfl) (by kernel_rfl) (by kernel_rfl) (by kernel_rfl) (fun _ _ _ h => h) (by rfl) ?_ (by assumption) ?_
  rotate_left
  · intro w' hSw; (try dsimp only at hSw); go_simp; try with_reducible rfl
  try simp only [Act.put, List.setIfInBounds_toArray, List.set_cons_zero, List.set_cons_succ]
  refine takeWE (i := 15) (d := (some 36)) (v := ?_) rfl rfl (by kernel_rfl) (by kernel_rfl) (by kernel_rfl) (by kernel_rfl) (by kernel_rfl) (fun _ _ _ h => h) (by rfl) ?_ (by assumption) ?_
  rotate_left
  · intro w' hSw; (try dsimp only at hSw); go_simp; try with_reducible rfl
  try simp only [Act.put, List.setIfInBounds_toArray, List.set_cons_zero, List.set_cons_succ]
  refine wpE_ready (rs := [16]) (by kernel_rfl) (by simp) ?_
  refine AllE.last rfl (by kernel_rfl) (fun K hK => ?_)
  go_simp
  go_wp2_with (fail)
  refine hK.out _ _ ?_
  clear hK K hHeld fx0 fx1
  have q7 : Chg [gx] w6 (w6.setCell ⟨gx, 0, none⟩ (.slice A6 (l.length + 1) c6)) := (Chg.refl _ _).setCell (.inl (by simp)) _
  have x7 : Hid (At (w6.setCell ⟨gx, 0, none⟩ (.slice A6 (l.length + 1) c6)) gx 48 #[.slice A6 (l.length + 1) c6, .int .i64 (nx : Int)]) := by
    have h := x6.out.set_ 0 (.slice A6 (l.length + 1) c6)
    simpa [Hid] using h
  have hown7 : Hid ((w6.setCell ⟨gx, 0, none⟩ (.slice A6 (l.length + 1) c6)).ownsRow w0.heap.size 70 4 (.slice A6 (l.length + 1) c6) (l.length + 1) (cLV l ++ cLV [⟨nx, m, cc, u⟩])) := own_keep hown6 q7 (fun j hj hm => own_at_ne hown6 x6.out (by decide) j hj (by simpa using hm))
  have hc7 : Hid (Chg (gx :: blk A) w (w6.setCell ⟨gx, 0, none⟩ (.slice A6 (l.length + 1) c6))) := (((HCD.out.trans qd (by simp)).mono (by simp)).trans (g6.mono (fun x hx => .inl (List.mem_cons_of_mem _ hx))) (fun x hx => .inl hx)).trans q7 (by simp)
  have hA6 : Hid (∀ j ∈ blk A6, j ∈ blk A ∨ w.heap.size ≤ j) := fun j hj => by
    rcases hb6 with h | h
    · rw [h, own_blk] at hj; exact .inl hj
    · rw [h] at hj
      obtain rfl := List.mem_singleton.1 hj
      exact .inr (by have := HCD.out.size; simp; omega)
  have y0 := x7.out.cell 0
  have y1 := x7.out.cell 1
  have fy1 := x7.out.free 1
  have y1' : (w6.setCell ⟨gx, 0, none⟩ (.slice A6 (l.length + 1) c6)).cell? ⟨gx, 1, none⟩ = some (.int .i64 (nx : Int)) := y1
  have hn1 : IntKind.i64.wrap ((nx : Int) + 1) = (nx : Int) + 1 := IntWalk.i64_in _ (by omega)
  clear x6 s6 hown6 hg6 hb6 g6 qd hgA q7
  generalize w6.setCell ⟨gx, 0, none⟩ (.slice A6 (l.length + 1) c6) = w7 at *
  go_wp2_with (fail)
  have x8 : At (w7.setCell ⟨gx, 1, none⟩ (.int .i64 ((nx : Int) + 1))) gx 48 #[.slice A6 (l.length + 1) c6, .int .i64 ((nx : Int) + 1)] := by
    have h := x7.out.set_ 1 (.int .i64 ((nx : Int) + 1))
    simpa using h
  have q8 : Chg [gx] w7 (w7.setCell ⟨gx, 1, none⟩ (.int .i64 ((nx : Int) + 1))) := (Chg.refl _ _).setCell (.inl (by simp)) _
  have z1 := x8.cell 1
  go_ret2
  refine ⟨A6, c6, rfl, ⟨?_, ?_, H0.out.new, ?_⟩, hc7.out.trans q8 (by simp), hA6.out⟩
  · rw [List.length_append]; exact x8
  · rw [List.length_append, cLV_app]; exact own_keep hown7.out q8 (fun j hj hm => own_at_ne hown7.out x7.out (by decide) j hj (by simpa using hm))
  · exact H0.out.chg.trans (hc7.out.trans q8 (by simp)) (fun x hx => .inr (by
      rcases List.mem_cons.1 hx with rfl | hx
      · exact H0.out.new
      · exact (own_in H0.out.row x hx).1))
set_option maxRecDepth 100000 in
set_option maxHeartbeats 3200000 in
theorem xdrop_all (h : LxH w0 w gx A c l nx) (i : Nat) (hi : i < l.length) (hl : l.length ≤ 1000000) : Calls Try.prog 31 #[.pointer (some ⟨gx, 0, none⟩), .int .i64 (i : Int)] w fun e w' => ∃ A' c', e = .returned (.tuple #[]) ∧ LxH w0 w' gx A' c' (l.eraseIdx i) nx ∧ Chg [gx] w w' ∧ (∀ j ∈ blk A', w.heap.size ≤ j) := by
  obtain ⟨i1, hi1, hy0, hy1, hy2⟩ := info_parts info_lea
  have H0 := Lib.hid h
  have hcap := own_cap h.row
  have hsH := fun w => run_slice_hi (P := Try.prog) w Try.underlying46 hi1 A l.length c (i : Int) i rfl (by omega)
  have hsL := fun w => run_slice_lo (P := Try.prog) w Try.underlying46 hi1 hy1 A l.length c ((i : Int) + 1) (i + 1) (by omega) (by omega)
  have hw1 : IntKind.i64.wrap ((i : Int) + 1) = (i : Int) + 1 := IntWalk.i64_in _ (by omega)
  clear h
  go_enter Try.func31, Try.ntmps31
  go_upto_region 0 with (fail)
  refine wp_regionE 19 (fun w' => w'.cell? ⟨gx, 0, none⟩ = some (.slice A l.length c)) (by kernel_rfl) ?_ (fun hHeld => ?_)
  · exact (H0.out.at_.keep ((Chg.refl [] w).drew) (by simp)).cell 0
  have HDR : Chg [] w w.drew := (Chg.refl [] w).drew
  have HD : Hid (LxH w0 w.drew gx A c l nx) := H0.out.k0 HDR
  have HCD : Hid (Chg [] w w.drew) := HDR
  clear HDR
  generalize w.drew = wd at *
  have KD : Hid (∀ w', Chg [] wd w' → w'.cell? ⟨gx, 0, none⟩ = some (.slice A l.length c)) := fun w' hc => (HD.out.at_.keep hc (by simp)).cell 0
  have RR := Rd.of_own HD.out.row
  have RT : Hid (Rd wd 4 A i (cLV (l.take i))) := by
    have h := RR.take (k := i) (by omega)
    rwa [cLV_take] at h
  have RC : Hid (Rd wd 4 (cutA A c (i + 1) 4) (l.length - (i + 1)) (cLV (l.drop (i + 1)))) := by
    have h := RR.cutR (k := i + 1) (cap := c) (by omega) (own_cap HD.out.row)
    rwa [cLV_drop] at h
  clear RR
  refine takeWE (i := 0) (d := (some 4)) (v := ?_) rfl rfl (by kernel_rfl) (by kernel_rfl) (by kernel_rfl) (by kernel_rfl) (by kernel_rfl) (fun _ _ _ h => h) (by rfl) ?_ (by assumption) ?_
  rotate_left
  · intro w' hSw; (try dsimp only at hSw); go_simp; try with_reducible rfl
  try simp only [Act.put, List.setIfInBounds_toArray, List.set_cons_zero, List.set_cons_succ]
  refine takeWE (i := 2) (d := (some 6)) (v := ?_) rfl rfl (by kernel_rfl) (by kernel_rfl) (by kernel_rfl) (by kernel_rfl) (by kernel_rfl) (fun _ _ _ h => h) (by rfl) ?_ (by assumption) ?_
  rotate_left
  · intro w' hSw; (try dsimp only at hSw); go_simp; try with_reducible rfl
  try simp only [Act.put, List.setIfInBounds_toArray, List.set_cons_zero, List.set_cons_succ]
  refine takeWE (i := 3) (d := (some 7)) (v := ?_) rfl rfl (by kernel_rfl) (by kernel_rfl) (by kernel_rfl) (by kernel_rfl) (by kernel_rfl) (fun _ _ _ h => h) (by rfl) ?_ (by assumption) ?_
  rotate_left
  · intro w' hSw; (try dsimp only at hSw); go_simp; try with_reducible rfl
  try simp only [Act.put, List.setIfInBounds_toArray, List.set_cons_zero, List.set_cons_succ]
  refine takeWE (i := 4) (d := (some 8)) (v := ?_) rfl rfl (by kernel_rfl) (by kernel_rfl) (by kernel_rfl) (by kernel_rfl) (by kernel_rfl) (fun _ _ _ h => h) (by rfl) ?_ (by assumption) ?_
  rotate_left
  · intro w' hSw; (try dsimp only at hSw); go_simp; try with_reducible rfl
  try simp only [Act.put, List.setIfInBounds_toArray, List.set_cons_zero, List.set_cons_succ]
  refine takeWE (i := 5) (d := (some 9)) (v := ?_) rfl rfl (by kernel_rfl) (by kernel_rfl) (by kernel_rfl) (by kernel_rfl) (by kernel_rfl) (fun _ _ _ h => h) (by rfl) ?_ (by assumption) ?_
  rotate_left
  · intro w' hSw; (try dsimp only at hSw); go_simp; try with_reducible rfl
  try simp only [Act.put, List.setIfInBounds_toArray, List.set_cons_zero, List.set_cons_succ]
  refine takeWE (i := 6) (d := (some 10)) (v := ?_) rfl rfl (by kernel_rfl) (by kernel_rfl) (by kernel_rfl) (by kernel_rfl) (by kernel_rfl) (fun _ _ _ h => h) (by rfl) ?_ (by assumption) ?_
  rotate_left
  · intro w' hSw; (try dsimp only at hSw); go_simp; try with_reducible rfl
  try simp only [Act.put, List.setIfInBounds_toArray, List.set_cons_zero, List.set_cons_succ]
  refine takeWE (i := 7) (d := (some 11)) (v := ?_) rfl rfl (by kernel_rfl) (by kernel_rfl) (by kernel_rfl) (by kernel_rfl) (by kernel_rfl) (fun _ _ _ h => h) (by rfl) ?_ (by assumption) ?_
  rotate_left
  · intro w' hSw; (try dsimp only at hSw); go_simp; try with_reducible rfl
  try simp only [Act.put, List.setIfInBounds_toArray, List.set_cons_zero, List.set_cons_succ]
  refine takeWE (i := 9) (d := (some 13)) (v := ?_) rfl rfl (by kernel_rfl) (by kernel_rfl) (by kernel_rfl) (by kernel_rfl) (by kernel_rfl) (fun _ _ _ h => h) (by rfl) ?_ (by assumption) ?_
  rotate_left
  · intro w' hSw; (try dsimp only at hSw); go_simp; try with_reducible rfl
  try simp only [Act.put, List.setIfInBounds_toArray, List.set_cons_zero, List.set_cons_succ]
  refine takeWE (i := 10) (d := (some 14)) (v := ?_) rfl rfl (by kernel_rfl) (by kernel_rfl) (by kernel_rfl) (by kernel_rfl) (by kernel_rfl) (fun _ _ _ h => h) (by rfl) ?_ (by assumption) ?_
  rotate_left
  · intro w' hSw; (try dsimp only at hSw); go_simp; try with_reducible rfl
  try simp only [Act.put, List.setIfInBounds_toArray, List.set_cons_zero, List.set_cons_succ]
  refine takeWE (i := 11) (d := (some 15)) (v := ?_) rfl rfl (by kernel_rfl) (by kernel_rfl) (by kernel_rfl) (by kernel_rfl) (by kernel_rfl) (fun _ _ _ h => h) (by rfl) ?_ (by assumption) ?_
  rotate_left
  · intro w' hSw; (try dsimp only at hSw); go_simp; try with_reducible rfl
  try simp only [Act.put, List.setIfInBounds_toArray, List.set_cons_zero, List.set_cons_succ]
  refine takeWE (i := 12) (d := (some 16)) (v := ?_) rfl rfl (by kernel_rfl) (by kernel_rfl) (by kernel_rfl) (by kernel_rfl) (by kernel_rfl) (fun _ _ _ h => h) (by rfl) ?_ (by assumption) ?_
  rotate_left
  · intro w' hSw; (try dsimp only at hSw); go_simp; try with_reducible rfl
  try simp only [Act.put, List.setIfInBounds_toArray, List.set_cons_zero, List.set_cons_succ]
  refine takeWE (i := 13) (d := (some 17)) (v := ?_) rfl rfl (by kernel_rfl) (by kernel_rfl) (by kernel_rfl) (by kernel_rfl) (by kernel_rfl) (fun _ _ _ h => h) (by rfl) ?_ (by assumption) ?_
  rotate_left
  · intro w' hSw; (try dsimp only at hSw); go_simp; try with_reducible rfl
  try simp only [Act.put, List.setIfInBounds_toArray, List.set_cons_zero, List.set_cons_succ]
  refine takeWE (i := 14) (d := (some 18)) (v := ?_) rfl rfl (by kernel_rfl) (by kernel_rfl) (by kernel_rfl) (by kernel_rfl) (by kernel_rfl) (fun _ _ _ h => h) (by rfl) ?_ (by assumption) ?_
  rotate_left
  · intro w' hSw; (try dsimp only at hSw); go_simp; try with_reducible rfl
  try simp only [Act.put, List.setIfInBounds_toArray, List.set_cons_zero, List.set_cons_succ]
  refine takeWE (i := 15) (d := (some 19)) (v := ?_) rfl rfl (by kernel_rfl) (by kernel_rfl) (by kernel_rfl) (by kernel_rfl) (by kernel_rfl) (fun _ _ _ h => h) (by rfl) ?_ (by assumption) ?_
  rotate_left
  · intro w' hSw; (try dsimp only at hSw); go_simp; try with_reducible rfl
  try simp only [Act.put, List.setIfInBounds_toArray, List.set_cons_zero, List.set_cons_succ]
  refine wpE_ready (rs := [1]) (by kernel_rfl) (by simp) ?_
  refine AllE.cons rfl (fun K hK => ?_) (AllE.nil)
  go_simp
  go_wp2_with (fail)
  refine hK.out _ _ ?_ (fun hHeld => ?_)
  · exact KD.out _ ((Chg.refl [] wd).alloc _)
  clear hK K
  try simp only [Act.put, List.setIfInBounds_toArray, List.set_cons_zero, List.set_cons_succ]
  refine wpE_ready (rs := [8]) (by kernel_rfl) (by simp) ?_
  refine AllE.cons rfl (fun K hK => ?_) (AllE.nil)
  refine wp_append_rd _ (.tmp 5) (.tmp 11) 46 (by rfl) wd.heap.size 70 i1 _ 4 32 Try.underlying46 hi1 hy0 hy1 hy2 rfl (by omega) (.slice (some ⟨wd.heap.size, 0, none⟩) 0 0) 0 [] (by simp [Act.eval, Act.put]) (World.ownsRow_made wd #[] 0 (Nat.le_refl _) (by simp [maxLen]) rfl) A i c (cLV (l.take i)) (by simp [Act.eval, Act.put]) (RT.out.alloc _) (cLV_one _) (by unfold maxLen; omega) (by omega) (by simp) ?_
  intro A4 c4 w4 hown4 hg4 hb4
  simp only [Nat.zero_add, List.nil_append] at hown4
  have hc4 : Chg [] wd w4 := ((Chg.refl [] wd).alloc _).grown hg4 (fun k hk => .inr (by simp [Value.ownBlock] at hk; omega))
  have OW4 := Lib.hid hown4
  clear hown4 hg4 hb4
  refine hK.out _ _ ?_ (fun hHeld => ?_)
  · exact KD.out _ hc4
  clear hK K
  try simp only [Act.put, List.setIfInBounds_toArray, List.set_cons_zero, List.set_cons_succ]
  refine wpE_ready (rs := [16]) (by kernel_rfl) (by simp) ?_
  refine AllE.cons rfl (fun K hK => ?_) (AllE.nil)
  refine wp_append_rd _ (.tmp 12) (.tmp 19) 46 (by rfl) wd.heap.size 70 i1 _ 4 32 Try.underlying46 hi1 hy0 hy1 hy2 rfl (by omega) (.slice A4 i c4) i (cLV (l.take i)) (by simp [Act.eval, Act.put]) OW4.out (cutA A c (i + 1) 4) (l.length - (i + 1)) (c - (i + 1)) (cLV (l.drop (i + 1))) (by simp [Act.eval, Act.put]) (RC.out.keep0 hc4) (cLV_one _) (by unfold maxLen; omega) (by omega) hc4.size ?_
  intro A6 c6 w6 hown6 hg6 hb6
  have hc6 : Chg [] wd w6 := hc4.grown hg6 (fun k hk => .inr (OW4.out.lt k hk).1)
  have x6 := Lib.hid (HD.out.at_.keep hc6 (by simp))
  have fx0 := x6.out.free 0
  refine hK.out _ _ ?_ (fun hHeld => ?_)
  · exact KD.out _ hc6
  clear hK K
  try simp only [Act.put, List.setIfInBounds_toArray, List.set_cons_zero, List.set_cons_succ]
  refine takeWE (i := 17) (d := (some 21)) (v := ?_) rfl rfl (by kernel_rfl) (by kernel_rfl) (by kernel_rfl) (by kernel_rfl) (by kernel_rfl) (fun _ _ _ h => h) (by rfl) ?_ (by assumption) ?_
  rotate_left
  · intro w' hSw; (try dsimp only at hSw); go_simp; try with_reducible rfl
  try simp only [Act.put, List.setIfInBounds_toArray, List.set_cons_zero, List.set_cons_succ]
  refine takeWE (i := 18) (d := (some 22)) (v := ?_) rfl rfl (by kernel_rfl) (by kernel_rfl) (by kernel_rfl) (by kernel_rfl) (by kernel_rfl) (fun _ _ _ h => h) (by rfl) ?_ (by assumption) ?_
  rotate_left
  · intro w' hSw; (try dsimp only at hSw); go_simp; try with_reducible rfl
  try simp only [Act.put, List.setIfInBounds_toArray, List.set_cons_zero, List.set_cons_succ]
  refine wpE_ready (rs := [19]) (by kernel_rfl) (by simp) ?_
  refine AllE.last rfl (by kernel_rfl) (fun K hK => ?_)
  go_simp
  go_wp2_with (fail)
  refine hK.out _ _ ?_
  clear hK K hHeld fx0
  have q7 : Chg [gx] w6 (w6.setCell ⟨gx, 0, none⟩ (.slice A6 (i + (l.length - (i + 1))) c6)) := (Chg.refl _ _).setCell (.inl (by simp)) _
  have x7 : At (w6.setCell ⟨gx, 0, none⟩ (.slice A6 (i + (l.length - (i + 1))) c6)) gx 48 #[.slice A6 (i + (l.length - (i + 1))) c6, .int .i64 (nx : Int)] := by
    have h := x6.out.set_ 0 (.slice A6 (i + (l.length - (i + 1))) c6)
    simpa using h
  have HL : (l.eraseIdx i).length = i + (l.length - (i + 1)) := by rw [List.length_eraseIdx, if_pos hi]; omega
  have hx : At w gx 48 #[.slice A l.length c, .int .i64 (nx : Int)] := H0.out.at_
  have hcw := HCD.out
  have hown7 := own_keep hown6 q7 (fun j hj hm => own_at_ne hown6 x6.out (by decide) j hj (by simpa using hm))
  go_wp2_with (fail)
  go_end0
  have hcw7 : Chg [gx] w (w6.setCell ⟨gx, 0, none⟩ (.slice A6 (i + (l.length - (i + 1))) c6)) := ((hcw.trans hc6 (by simp)).mono (by simp)).trans q7 (by simp)
  have hA6 : ∀ j ∈ blk A6, w.heap.size ≤ j := fun j hj => by
    have h1 := hcw.size
    rcases hb6 with h | h
    · rw [h, own_blk] at hj
      have := (own_in OW4.out j hj).1
      omega
    · rw [h] at hj
      obtain rfl := List.mem_singleton.1 hj
      have := hc4.size
      omega
  have hbw := H0.out.chg.size
  refine ⟨A6, c6, rfl, ⟨?_, ?_, H0.out.new, ?_⟩, hcw7, hA6⟩
  · rw [HL]; exact x7
  · rw [HL, List.eraseIdx_eq_take_drop_succ, cLV_app]
    exact own_base hown7 (fun k hk => Nat.le_trans hbw (hA6 k (bo A6 _ c6 k hk)))
  · exact H0.out.chg.trans hcw7 (fun x hx => .inr (by simp at hx; subst hx; exact H0.out.new))
end
end Go.Proofs.Ytbijglnkohmafaa
