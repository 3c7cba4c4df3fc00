
/-
  lease: maps.DeleteFunc, Expire.
-/
import Derived.Test.YtbijglnkohmafaaLeaC
namespace Go.Proofs.Ytbijglnkohmafaa
open Go.RowKit Go.Maps
set_option linter.unusedVariables false

section
variable {w0 w w' : World} {gl b : Nat} {l : List LV} {nx : Nat}
theorem isD_del {D : DataW Unit} (hT : Tidy D) (h : IsD D l) (nd : (l.map LV.id).Nodup) (k : Int) : IsD (D.del (.int .i64 k)) (delL l k) := by
  have hsz := size_del hT (k := .int .i64 k)
  rw [h.hs, h.sz] at hsz
  have hl := delL_len nd k
  refine ⟨by omega, fun k' => ?_, fun k' y hx z => ?_⟩
  · by_cases e : k' = k
    · subst e
      rw [has_del_same, fndL_del_same]; rfl
    · rw [has_del_other (by simpa using e), h.hs, fndL_del_other e]
  · by_cases e : k' = k
    · subst e
      rw [fndL_del_same] at hx; cases hx
    · rw [atKey_del_other (by simpa using e)]
      rw [fndL_del_other e] at hx
      exact h.at_ k' y hx z
/-- Which stay while the loop is under way. -/
def keepL (l : List LV) (now : Int) (left : Lit → Bool) : List LV := l.filter fun x => !decide (x.u ≤ now) || left (.int .i64 x.id)
def expL (l : List LV) (now : Int) : List LV := l.filter fun x => !decide (x.u ≤ now)
theorem keepL_nd (nd : (l.map LV.id).Nodup) (now : Int) (left : Lit → Bool) : ((keepL l now left).map LV.id).Nodup := nd.sublist ((List.filter_sublist).map _)
theorem keepL_start {D : DataW Unit} (h : IsD D l) (now : Int) : keepL l now (Maps.has D) = l := by
  unfold keepL
  rw [List.filter_eq_self]
  intro x hx
  rw [h.hs]
  have : fndL l x.id ≠ none := fun e => fndL_none e x hx rfl
  cases h9 : fndL l x.id with
  | none => exact absurd h9 this
  | some y => simp
theorem keepL_end {left : Lit → Bool} (h : ∀ kl, left kl = false) (now : Int) : keepL l now left = expL l now := by
  unfold keepL expL
  congr 1
  funext x
  rw [h]; simp
theorem sameKey_int (a b : Int) : (Lit.int .i64 a).sameKey (.int .i64 b) = decide (a = b) := by
  cases h : (Lit.int .i64 a).sameKey (.int .i64 b)
  · symm
    rw [decide_eq_false_iff_not]
    intro e
    subst e
    simp [Lit.sameKey] at h
  · have h3 := WideAt.sameKey_eq h
    injection h3 with _ h3
    rw [decide_eq_true h3]
theorem keepL_stay (nd : (l.map LV.id).Nodup) {now k : Int} {left : Lit → Bool} {x : LV} (hf : fndL (keepL l now left) k = some x) (hu : now < x.u) : keepL l now (fun z => left z && !z.sameKey (.int .i64 k)) = keepL l now left := by
  have hx := fndL_some hf
  have hxl : x ∈ l := (List.mem_filter.1 hx.1).1
  unfold keepL
  apply List.filter_congr
  intro y hy
  simp only [sameKey_int]
  by_cases e : y.id = k
  · have h1 := fnd_mem nd hy
    have h2 := fnd_mem nd hxl
    rw [e] at h1
    rw [hx.2] at h2
    rw [h1] at h2
    injection h2 with h2
    subst h2
    have : ¬ y.u ≤ now := by omega
    simp [this]
  · simp [e]
theorem keepL_strike (nd : (l.map LV.id).Nodup) {now k : Int} {left : Lit → Bool} {x : LV} (hf : fndL (keepL l now left) k = some x) (hu : x.u ≤ now) : keepL l now (fun z => left z && !z.sameKey (.int .i64 k)) = delL (keepL l now left) k := by
  have hx := fndL_some hf
  have hxl : x ∈ l := (List.mem_filter.1 hx.1).1
  unfold keepL delL
  rw [List.filter_filter]
  apply List.filter_congr
  intro y hy
  simp only [sameKey_int]
  by_cases e : y.id = k
  · have h1 := fnd_mem nd hy
    have h2 := fnd_mem nd hxl
    rw [e] at h1
    rw [hx.2] at h2
    rw [h1] at h2
    injection h2 with h2
    subst h2
    simp [hu, e]
  · simp [e]
/-- The closure. -/
theorem exp1_any (w : World) (gu : Nat) (now k m c u : Int) (hu : w.cell? ⟨gu, 0, none⟩ = some (.int .i64 now)) (hg : gu < w.heap.size) : Calls Try.prog 29 #[.int .i64 k, .agg #[.int .i64 m, .int .i64 c, .int .i64 u], .pointer (some ⟨gu, 0, none⟩)] w fun e w' => e = .returned (.bool (decide (u ≤ now))) ∧ Chg [] w w' := by
  have q := (Chg.refl [] w).alloc (.cells #[.int .i64 m, .int .i64 c, .int .i64 u] 65)
  have hu1 := (q.cell (p := ⟨gu, 0, none⟩) hg (by simp)).trans hu
  have z := At.new w 65 #[.int .i64 m, .int .i64 c, .int .i64 u]
  have z2 := z.cell 2
  simp only [List.getElem?_toArray, List.getElem?_cons_zero, List.getElem?_cons_succ] at z2
  clear z
  go_enter Try.func29, Try.ntmps29
  go_wp2_with (fail)
  go_ret
  exact ⟨rfl, q⟩
set_option maxRecDepth 100000 in
set_option maxHeartbeats 6400000 in
theorem dfunc_all (h : MapL w b l) (gu : Nat) (now : Int) (hu : At w gu 3 #[.int .i64 now]) : Calls Try.prog 28 #[.map (some b), .func (Fn.func 29) #[] #[.pointer (some ⟨gu, 0, none⟩)]] w fun e w' => e = .returned (.tuple #[]) ∧ MapL w' b (expL l now) ∧ Chg [b] w w' := by
  obtain ⟨D, hown, hD⟩ := h.isD
  have HD := Lib.hid hD
  have HND := Lib.hid h.nd
  have HU := Lib.hid hu
  have hbl := h.lt
  have hul := hu.lt
  have hub : gu ≠ b := map_ne h hu
  clear h hD hu
  go_enter Try.func28, Try.ntmps28
  go_wp2_with (at_range; refine wpList_range_own _ rfl _ 58 rfl 3 65 kInt Try.underlying58 heldR b l.length D rfl hown ?_; intro w3 hrg3 hg3 hs3)
  go_frame
  have HC3 : Hid (Chg [] w w3) := by
    have h1 := Chg.of_grown hg3
    exact h1.mono (by simp)
  have HR3 := Lib.hid hrg3
  clear hg3 hs3 hrg3 hown
  generalize hgr : w.heap.size = r at *
  go_loopw [8] (fun _ wr => ∃ (left : Lit → Bool) (cnt : Nat) (D : DataW Unit), wr.ranges Try.prog 3 heldR b r l.length D left cnt ∧ Hid (IsD D (keepL l now left)) ∧ Hid (At wr gu 3 #[.int .i64 now] ∧ Chg [b] w wr)) (fun _ wr => wr.rangeLeft b r)
  case atStart => exact ⟨_, _, D, HR3.out, by unfold Hid; rw [keepL_start HD.out]; exact HD.out, HU.out.keep HC3.out (by simp), HC3.out.mono (by simp)⟩
  case round =>
    clear HR3 HD D
    obtain ⟨left, cnt, D, hrg, HD, HA⟩ := hrel
    go_wp2_with (at_next; refine wpList_next_ranges _ rfl _ rfl 3 kInt heldR (Value.int .i64) mkH invK_int invV_held b r l.length D left cnt rfl hrg ?_ ?_)
    · intro _ hl0
      have HM := Lib.hid (MapL.of hrg.owns (by have := HD.out; rw [keepL_end hl0] at this; exact this) (by have := keepL_nd HND.out now left; rw [keepL_end hl0] at this; exact this))
      clear hrg
      go_wp2_with (fail)
      go_end0
      exact ⟨rfl, HM.out, HA.out.2⟩
    · intro k tm tc tu kl y1 y2 w4 cnt4 hkey hlk hv hat hrg4 hlt4 hg4 hs4 hen
      obtain ⟨rfl, hkw, hfk⟩ := HD.out.came (t := (tm, tc, tu)) (y := (y1, y2)) hkey hv hat
      simp only [mkH] at hen
      simp only at hfk
      have hcg4 : Chg [r] wr w4 := by
        have h1 := Chg.of_grown hg4
        exact h1.mono (by simp)
      have q5 := (Chg.refl [] w4).alloc (.cells #[.int .i64 tm, .int .i64 tc, .int .i64 tu] 65)
      have hA4 := HA.out.1.keep hcg4 (by simp; omega)
      have hC4 : Hid (Chg [b] w w4) := HA.out.2.trans hcg4 (by simp; omega)
      have hA5 := Lib.hid (hA4.keep q5 (by simp))
      have T5 := At.new w4 65 #[.int .i64 tm, .int .i64 tc, .int .i64 tu]
      have v0 := T5.cell 0
      have v1 := T5.cell 1
      have v2 := T5.cell 2
      simp only [List.getElem?_toArray, List.getElem?_cons_zero, List.getElem?_cons_succ] at v0 v1 v2
      have HR4 := Lib.hid hrg4
      have HL4 := Lib.hid hlt4
      have HRo := Lib.hid hrg
      have hr4 : r < w4.heap.size := ranges_rlt hrg4
      have hb4 : b < w4.heap.size := hrg4.owns.lt
      have HFk := Lib.hid hfk
      clear hkey hv hat hrg4 hlt4 hg4 hs4 hrg hfk hlk hA4 hcg4 T5
      go_wp2_with (fail)
      refine (exp1_any _ gu now k tm tc tu (hA5.out.cell 0) hA5.out.lt).mono ?_
      rintro e w5 ⟨rfl, hc5⟩
      have hq5 : Hid (Chg [] w4 w5) := q5.trans hc5 (by simp)
      have HA5 := Lib.hid (hA5.out.keep hc5 (by simp))
      have HR5 := Lib.hid (ranges_stable HR4.out (hq5.out.block b hb4 (by simp)) (hq5.out.block r hr4 (by simp)))
      have hC5 : Hid (Chg [b] w w5) := hC4.out.trans hq5.out (by simp)
      clear v0 v1 v2 hA5 hc5 q5 hen
      by_cases hlt : tu ≤ now
      · rw [decide_eq_true hlt]
        have HD5 := Lib.hid (isD_del (HR5.out.owns.tidy kInt) HD.out (keepL_nd HND.out now left) k)
        rw [← keepL_strike HND.out HFk.out hlt] at HD5
        have hrg5 := HR5.out
        go_wp2_with (at_delete; refine wpList_delete_ranges _ rfl _ _ 58 3 rfl 65 kInt Try.underlying58 heldR b r l.length D _ cnt4 rfl hrg5 _ _ rfl (keyI hkw) ?_; intro w6 cnt6 hrg6 hle hturn; go_frame)
        rw [strike_twice] at hrg6
        have hc6 : Chg [b] w5 w6 := by
          have h1 := Chg.of_grown hturn.grown
          exact h1.mono (by simp)
        go_roundw
        case rel => exact ⟨_, cnt6, _, hrg6, HD5, HA5.out.keep hc6 (by simpa using hub), hC5.out.trans hc6 (by simp)⟩
        case measure => rw [hrg6.left_eq, HRo.out.left_eq]; have := HL4.out; omega
      · rw [decide_eq_false hlt]
        have HD5 : Hid (IsD D (keepL l now (fun z => left z && !z.sameKey (.int .i64 k)))) := by
          unfold Hid
          rw [keepL_stay HND.out HFk.out (by show now < tu; omega)]
          exact HD.out
        go_wp2_with (fail)
        go_roundw
        case rel => exact ⟨_, cnt4, D, HR5.out, HD5, HA5.out, hC5.out⟩
        case measure => rw [HR5.out.left_eq, HRo.out.left_eq]; exact HL4.out
theorem expire_nil (w : World) (now : Int) : Calls Try.prog 16 #[.pointer none, .int .i64 now] w fun e w' => e = .returned (.int .i64 0) ∧ Chg [] w w' := by
  go_enter Try.func16, Try.ntmps16
  go_wp2_with (fail)
  go_ret
  exact ⟨rfl, (Chg.refl _ _).alloc _⟩
theorem expire_all (h : LsH w0 w gl b l nx) (now : Int) (hl : l.length ≤ 1000000) : Calls Try.prog 16 #[.pointer (some ⟨gl, 0, none⟩), .int .i64 now] w fun e w' => e = .returned (.int .i64 ((l.length : Int) - ((expL l now).length : Int))) ∧ LsH w0 w' gl b (expL l now) nx ∧ Chg [b] w w' := by
  have q0 := (Chg.refl [] w).alloc (.cells #[.int .i64 now] 3)
  have z0 := Lib.hid (At.new w 3 #[.int .i64 now])
  have H0 := Lib.hid (h.k0 q0)
  have c0 : (w.alloc (.cells #[.int .i64 now] 3)).cell? ⟨gl, 0, none⟩ = some (.map (some b)) := H0.out.at_.cell 0
  have hlen := fun ty => H0.out.map.len ty
  have HQ := Lib.hid q0
  clear h q0
  go_enter Try.func16, Try.ntmps16
  go_wp2_with (fail)
  refine (dfunc_all H0.out.map w.heap.size now z0.out).mono ?_
  rintro e w2 ⟨rfl, hM2, hc2⟩
  have hne := H0.out.ne
  have H2 := Lib.hid (⟨H0.out.at_.keep hc2 (by simpa using hne), hM2, H0.out.new, H0.out.chg.trans hc2 (by have := H0.out.new; simp; omega)⟩ : LsH w0 w2 gl b (expL l now) nx)
  have c0 : w2.cell? ⟨gl, 0, none⟩ = some (.map (some b)) := H2.out.at_.cell 0
  have hlen := fun ty => hM2.len ty
  have HC2 : Hid (Chg [b] w w2) := (HQ.out.mono (by simp)).trans hc2 (by simp)
  have hle : (expL l now).length ≤ l.length := List.length_filter_le _ _
  clear hM2 hc2 H0 z0 HQ
  go_wp2_with (fail)
  go_ret
  exact ⟨rfl, H2.out, HC2.out⟩
end
end Go.Proofs.Ytbijglnkohmafaa
