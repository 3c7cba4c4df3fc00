
/-
  lease: New, Len, Open, At.
-/
import Derived.Test.YtbijglnkohmafaaLeaM
import Derived.Test.YtbijglnkohmafaaStW
import Derived.Test.YtbijglnkohmafaaHlcC
import Derived.Test.YtbijglnkohmafaaPackW
import Derived.Test.YtbijglnkohmafaaTake
import Derived.Deep.RegionHeld3
import Derived.Deep.DeepCutAuto
namespace Go.Proofs.Ytbijglnkohmafaa
open Go.RowKit Go.Maps
set_option linter.unusedVariables false
attribute [local go_sem ↓] run_min2 run_max2

/-- Leases in memory: these are held, the next number. -/
structure LsH (w0 w : World) (gl b : Nat) (l : List LV) (nx : Nat) : Prop where
  at_ : At w gl 60 #[.map (some b), .int .i64 (nx : Int)]
  map : MapL w b l
  new : w0.heap.size ≤ gl ∧ w0.heap.size ≤ b
  chg : Chg [] w0 w
section
variable {w0 w w' : World} {gl b : Nat} {l : List LV} {nx : Nat}
theorem LsH.keep (h : LsH w0 w gl b l nx) {S : List Nat} (hc : Chg S w w') (h1 : gl ∉ S) (h2 : b ∉ S) (h3 : ∀ x ∈ S, w0.heap.size ≤ x) : LsH w0 w' gl b l nx :=
  ⟨h.at_.keep hc h1, h.map.keep hc h2, h.new, h.chg.trans hc (fun x hx => .inr (h3 x hx))⟩
theorem LsH.k0 (h : LsH w0 w gl b l nx) (hc : Chg [] w w') : LsH w0 w' gl b l nx := h.keep hc (by simp) (by simp) (by simp)
theorem LsH.ne (h : LsH w0 w gl b l nx) : gl ≠ b := fun e => by
  obtain ⟨D, ⟨es, clock, hb, _⟩, _⟩ := h.map.own
  have h1 := h.at_
  unfold At at h1
  rw [e, hb] at h1
  cases h1
theorem map_ne {g : Nat} {t : TypeId} {cs : Array Value} (h : MapL w b l) (hg : At w g t cs) : g ≠ b := fun e => by
  obtain ⟨D, ⟨es, clock, hb, _⟩, _⟩ := h.own
  unfold At at hg
  rw [e, hb] at hg
  cases hg
theorem lnew_all (w : World) : Calls Try.prog 9 #[] w fun e w' => ∃ gl b, e = .returned (.pointer (some ⟨gl, 0, none⟩)) ∧ LsH w w' gl b [] 0 := by
  have hmm := @run_makeMap Try.prog
  go_enter Try.func9, Try.ntmps9
  go_wp2_with (fail)
  go_ret
  refine ⟨w.heap.size + 1, w.heap.size, rfl, ?_, (MapL.made w).keep ((Chg.refl [] _).alloc _) (by simp), ⟨by omega, Nat.le_refl _⟩, ((Chg.refl [] _).alloc _).alloc _⟩
  exact At.newG _ _ _ (by simp)
theorem llen_nil (w : World) : Calls Try.prog 17 #[.pointer none] w fun e w' => e = .returned (.int .i64 0) ∧ w' = w := by
  go_enter Try.func17, Try.ntmps17
  go_wp2_with (fail)
  go_ret
  exact ⟨rfl, rfl⟩
theorem llen_all (h : LsH w0 w gl b l nx) : Calls Try.prog 17 #[.pointer (some ⟨gl, 0, none⟩)] w fun e w' => e = .returned (.int .i64 l.length) ∧ w' = w := by
  have c0 : w.cell? ⟨gl, 0, none⟩ = some (.map (some b)) := h.at_.cell 0
  have hl := fun ty => h.map.len ty
  go_enter Try.func17, Try.ntmps17
  go_wp2_with (fail)
  go_ret
  exact ⟨rfl, rfl⟩
set_option maxHeartbeats 1600000 in
theorem open_nil (w : World) (m c u : Int) : Calls Try.prog 10 #[.pointer none, .agg #[.int .i64 m, .int .i64 c], .int .i64 u] w fun e w' => e = .returned (.tuple #[.int .i64 0, .int .i64 1]) ∧ Chg [] w w' := by
  have z0 := (At.new w 29 #[.int .i64 m, .int .i64 c]).st
  obtain ⟨x0, x1, _⟩ := z0
  have q0 := (Chg.refl [] w).alloc (.cells #[.int .i64 m, .int .i64 c] 29)
  have HP : Hid (∀ w, Calls Try.prog 26 #[.agg #[.int .i64 m, .int .i64 c]] w fun e w' => ∃ x y, e = .returned (.tuple #[.int .u64 x, .int .i64 y]) ∧ Chg [] w w') := fun w => by
    cases h : isS m c
    · refine (pack_no w m c h).mono ?_
      rintro e w' ⟨rfl, hc⟩
      exact ⟨_, _, rfl, hc⟩
    · refine (pack_yes w m c h).mono ?_
      rintro e w' ⟨rfl, hc⟩
      exact ⟨_, _, rfl, hc⟩
  go_enter Try.func10, Try.ntmps10
  go_wp2_with (fail)
  refine (HP.out _).mono ?_
  rintro e w1 ⟨x, y, rfl, hc⟩
  go_wp2_with (fail)
  go_ret2
  exact ⟨rfl, q0.trans hc (by simp)⟩
set_option maxHeartbeats 1600000 in
theorem open_arg (h : LsH w0 w gl b l nx) (m c u : Int) (hno : isS m c = false ∨ u < 0) : Calls Try.prog 10 #[.pointer (some ⟨gl, 0, none⟩), .agg #[.int .i64 m, .int .i64 c], .int .i64 u] w fun e w' => e = .returned (.tuple #[.int .i64 0, .int .i64 1]) ∧ Chg [] w w' := by
  have z0 := (At.new w 29 #[.int .i64 m, .int .i64 c]).st
  obtain ⟨x0, x1, _⟩ := z0
  have q0 := (Chg.refl [] w).alloc (.cells #[.int .i64 m, .int .i64 c] 29)
  clear h
  cases hs : isS m c
  · have HP := Lib.hid (fun w => pack_no w m c hs)
    clear hno hs
    go_enter Try.func10, Try.ntmps10
    go_wp2_with (fail)
    refine (HP.out _).mono ?_
    rintro e w1 ⟨rfl, hc⟩
    go_wp2_with (fail)
    go_ret2
    exact ⟨rfl, q0.trans hc (by simp)⟩
  · have hu : decide (u < 0) = true := decide_eq_true (by
      rcases hno with h | h
      · rw [hs] at h; cases h
      · exact h)
    have HP := Lib.hid (fun w => pack_yes w m c hs)
    clear hno hs
    go_enter Try.func10, Try.ntmps10
    go_wp2_with (fail)
    refine (HP.out _).mono ?_
    rintro e w1 ⟨rfl, hc⟩
    go_wp2_with (fail)
    go_ret2
    exact ⟨rfl, q0.trans hc (by simp)⟩
set_option maxHeartbeats 1600000 in
theorem open_full (h : LsH w0 w gl b l nx) (m c u : Int) (hs : isS m c = true) (h0 : 0 ≤ u) (hl : 64 ≤ l.length) (hl2 : l.length ≤ 1000000) : Calls Try.prog 10 #[.pointer (some ⟨gl, 0, none⟩), .agg #[.int .i64 m, .int .i64 c], .int .i64 u] w fun e w' => e = .returned (.tuple #[.int .i64 0, .int .i64 6]) ∧ Chg [] w w' := by
  have z0 := (At.new w 29 #[.int .i64 m, .int .i64 c]).st
  obtain ⟨x0, x1, _⟩ := z0
  have q0 := (Chg.refl [] w).alloc (.cells #[.int .i64 m, .int .i64 c] 29)
  have hu : decide (u < 0) = false := decide_eq_false (by omega)
  have HP := Lib.hid (fun w => pack_yes w m c hs)
  have H := Lib.hid h
  have hlb : decide ((64 : Int) ≤ (l.length : Int)) = true := decide_eq_true (by omega)
  clear h hs h0
  go_enter Try.func10, Try.ntmps10
  go_wp2_with (fail)
  refine (HP.out _).mono ?_
  rintro e w1 ⟨rfl, hc⟩
  have H1 := H.out.k0 (q0.trans hc (by simp))
  have c0 : w1.cell? ⟨gl, 0, none⟩ = some (.map (some b)) := H1.at_.cell 0
  have hl := fun ty => H1.map.len ty
  clear H1
  go_wp2_with (fail)
  go_ret2
  exact ⟨rfl, q0.trans hc (by simp)⟩
set_option maxRecDepth 100000 in
set_option maxHeartbeats 3200000 in
theorem open_yes (h : LsH w0 w gl b l nx) (m c u : Int) (hs : isS m c = true) (h0 : 0 ≤ u) (hl : l.length < 64) (hnx : nx ≤ 1099511627776) (hf : fndL l nx = none) : Calls Try.prog 10 #[.pointer (some ⟨gl, 0, none⟩), .agg #[.int .i64 m, .int .i64 c], .int .i64 u] w fun e w' => e = .returned (.tuple #[.int .i64 nx, .int .i64 0]) ∧ LsH w0 w' gl b (l ++ [⟨nx, m, c, u⟩]) (nx + 1) ∧ Chg [gl, b] w w' := by
  have z0 := At.new w 29 #[.int .i64 m, .int .i64 c]
  obtain ⟨x0, x1, _⟩ := z0.st
  have q0 := (Chg.refl [] w).alloc (.cells #[.int .i64 m, .int .i64 c] 29)
  have hu : decide (u < 0) = false := decide_eq_false (by omega)
  have HP := Lib.hid (fun w => pack_yes w m c hs)
  have H := Lib.hid h
  have hlb : decide ((64 : Int) ≤ (l.length : Int)) = false := decide_eq_false (by omega)
  have hgl : gl < w.heap.size := h.at_.lt
  have hbl : b < w.heap.size := h.map.lt
  have hne := h.ne
  clear h hs h0
  go_enter Try.func10, Try.ntmps10
  go_wp2_with (fail)
  refine (HP.out _).mono ?_
  rintro e w1 ⟨rfl, hc⟩
  have hc1 : Chg [] w w1 := q0.trans hc (by simp)
  have H1 := Lib.hid (H.out.k0 hc1)
  have Z1 := Lib.hid (z0.keep hc (by simp))
  have c0 : w1.cell? ⟨gl, 0, none⟩ = some (.map (some b)) := H1.out.at_.cell 0
  have c1 : w1.cell? ⟨gl, 1, none⟩ = some (.int .i64 nx) := H1.out.at_.cell 1
  have f1 := H1.out.at_.free 1
  have hlen := fun ty => H1.out.map.len ty
  clear z0 q0 hc
  go_upto_region 8 with (fail)
  have hc2 : Chg [gl] w1 (w1.setCell ⟨gl, 1, none⟩ (.int .i64 ((nx : Int) + 1))) := (Chg.refl _ _).setCell (.inl (by simp)) _
  have HA : Hid (At (w1.setCell ⟨gl, 1, none⟩ (.int .i64 ((nx : Int) + 1))) gl 60 #[.map (some b), .int .i64 ((nx + 1 : Nat) : Int)]) := by
    have h9 := H1.out.at_.set_ 1 (.int .i64 ((nx : Int) + 1))
    simpa [Hid] using h9
  have HM : Hid (MapL (w1.setCell ⟨gl, 1, none⟩ (.int .i64 ((nx : Int) + 1))) b l) := H1.out.map.keep hc2 (by simpa using Ne.symm hne)
  have HZ := Lib.hid (Z1.out.keep hc2 (by simp; omega))
  have HC2 : Hid (Chg [gl] w (w1.setCell ⟨gl, 1, none⟩ (.int .i64 ((nx : Int) + 1)))) := (hc1.mono (by simp)).trans hc2 (by simp)
  clear c0 c1 f1 hlen H1 Z1 hc2 x0 x1
  generalize w1.setCell ⟨gl, 1, none⟩ (.int .i64 ((nx : Int) + 1)) = wz at *
  generalize hg0 : w.heap.size = g0 at *
  have hk : (Lit.int .i64 (nx : Int)).wf = true := WalkArith.wf_i64 (by omega)
  obtain ⟨w9, hr, hM9, hc9b⟩ := (HM.out.keep ((Chg.refl [] wz).drew) (by simp)).put_new (m := m) (c := c) (u := u) hk hf (by unfold maxLen; omega)
  have hc9 : Chg [b] wz w9 := ((Chg.refl [b] wz).drew).trans hc9b (by simp)
  have KK : Hid (∀ w', Chg [b] wz w' → w'.cell? ⟨gl, 0, none⟩ = some (.map (some b)) ∧ w'.cell? ⟨g0, 0, none⟩ = some (.int .i64 m) ∧ w'.cell? ⟨g0, 1, none⟩ = some (.int .i64 c)) := fun w' hc => ⟨(HA.out.keep hc (by simpa using hne)).cell 0, (HZ.out.keep hc (by simp; omega)).cell 0, (HZ.out.keep hc (by simp; omega)).cell 1⟩
  refine wp_region_held_drew (S := fun w' => w'.cell? ⟨gl, 0, none⟩ = some (.map (some b)) ∧ w'.cell? ⟨g0, 0, none⟩ = some (.int .i64 m) ∧ w'.cell? ⟨g0, 1, none⟩ = some (.int .i64 c)) (by kernel_rfl) ?_ (fun hHeld => ?_)
  · exact KK.out _ ((Chg.refl [b] wz).drew)
  refine takeW (i := 0) (d := (some 43)) (v := ?_) rfl rfl (by kernel_rfl) (by kernel_rfl) (by kernel_rfl) (fun _ _ _ h => h) (by rfl) ?_ (by assumption) ?_
  rotate_left
  · intro w' hSw; (try dsimp only at hSw); go_simp; try with_reducible rfl
  try simp only [Act.put, List.setIfInBounds_toArray, List.set_cons_zero, List.set_cons_succ]
  refine takeW (i := 1) (d := (some 44)) (v := ?_) rfl rfl (by kernel_rfl) (by kernel_rfl) (by kernel_rfl) (fun _ _ _ h => h) (by rfl) ?_ (by assumption) ?_
  rotate_left
  · intro w' hSw; (try dsimp only at hSw); go_simp; try with_reducible rfl
  try simp only [Act.put, List.setIfInBounds_toArray, List.set_cons_zero, List.set_cons_succ]
  refine takeW (i := 2) (d := (some 45)) (v := ?_) rfl rfl (by kernel_rfl) (by kernel_rfl) (by kernel_rfl) (fun _ _ _ h => h) (by rfl) ?_ (by assumption) ?_
  rotate_left
  · intro w' hSw; (try dsimp only at hSw); go_simp; try with_reducible rfl
  try simp only [Act.put, List.setIfInBounds_toArray, List.set_cons_zero, List.set_cons_succ]
  refine takeW (i := 3) (d := (some 46)) (v := ?_) rfl rfl (by kernel_rfl) (by kernel_rfl) (by kernel_rfl) (fun _ _ _ h => h) (by rfl) ?_ (by assumption) ?_
  rotate_left
  · intro w' hSw; (try dsimp only at hSw); go_simp; try with_reducible rfl
  try simp only [Act.put, List.setIfInBounds_toArray, List.set_cons_zero, List.set_cons_succ]
  refine takeW (i := 4) (d := (some 47)) (v := ?_) rfl rfl (by kernel_rfl) (by kernel_rfl) (by kernel_rfl) (fun _ _ _ h => h) (by rfl) ?_ (by assumption) ?_
  rotate_left
  · intro w' hSw; (try dsimp only at hSw); go_simp; try with_reducible rfl
  try simp only [Act.put, List.setIfInBounds_toArray, List.set_cons_zero, List.set_cons_succ]
  refine takeW (i := 5) (d := (some 48)) (v := ?_) rfl rfl (by kernel_rfl) (by kernel_rfl) (by kernel_rfl) (fun _ _ _ h => h) (by rfl) ?_ (by assumption) ?_
  rotate_left
  · intro w' hSw; (try dsimp only at hSw); go_simp; try with_reducible rfl
  try simp only [Act.put, List.setIfInBounds_toArray, List.set_cons_zero, List.set_cons_succ]
  refine takeW (i := 6) (d := (some 49)) (v := ?_) rfl rfl (by kernel_rfl) (by kernel_rfl) (by kernel_rfl) (fun _ _ _ h => h) (by rfl) ?_ (by assumption) ?_
  rotate_left
  · intro w' hSw; (try dsimp only at hSw); go_simp; try with_reducible rfl
  try simp only [Act.put, List.setIfInBounds_toArray, List.set_cons_zero, List.set_cons_succ]
  refine takeW (i := 7) (d := (some 50)) (v := ?_) rfl rfl (by kernel_rfl) (by kernel_rfl) (by kernel_rfl) (fun _ _ _ h => h) (by rfl) ?_ (by assumption) ?_
  rotate_left
  · intro w' hSw; (try dsimp only at hSw); go_simp; try with_reducible rfl
  try simp only [Act.put, List.setIfInBounds_toArray, List.set_cons_zero, List.set_cons_succ]
  refine wpAnyH_ready (rs := [8]) (by kernel_rfl) (by simp) ?_
  refine AllReadyH.cons rfl (fun K hK => ?_) AllReadyH.nil
  go_simp
  go_wp2_with (fail)
  refine hK.out _ _ ?_ (fun hHeld => ?_)
  · exact KK.out _ hc9
  clear hK K
  try simp only [Act.put, List.setIfInBounds_toArray, List.set_cons_zero, List.set_cons_succ]
  refine wpAnyH_done (by kernel_rfl) ?_ _
  go_wp2_with (fail)
  go_ret2
  exact ⟨rfl, ⟨HA.out.keep hc9 (by simpa using hne), hM9, H.out.new, (H.out.chg.trans (HC2.out) (by have := H.out.new; simp; omega)).trans hc9 (by have := H.out.new; simp; omega)⟩, (HC2.out.mono (by simp)).trans hc9 (by simp)⟩
end
end Go.Proofs.Ytbijglnkohmafaa
