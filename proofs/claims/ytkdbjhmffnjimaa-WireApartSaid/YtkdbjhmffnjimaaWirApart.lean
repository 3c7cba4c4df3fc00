
/-
  WireApart: the walk of the law.
-/
import Derived.Test.YtkdbjhmffnjimaaWirA3
import Derived.Test.YtkdbjhmffnjimaaWirW
import Derived.Test.YtkdbjhmffnjimaaSameL
import Derived.OpenShut
namespace Go.Proofs.Ytkdbjhmffnjimaa
open Go.RowKit
set_option linter.unusedVariables false

theorem same_t2 (w : World) (A B : Option Addr) (n m c d : Nat) (xs ys : List UInt8) (s : Bool) (hs : decide (xs = ys) = s) (hn : xs.length = n) (hm : ys.length = m) (hx : Rd w 1 A xs.length (cB xs)) (hy : Rd w 1 B ys.length (cB ys)) (hl : xs.length ≤ 140737488355328) :
    Calls Try.prog 12 #[.slice A n c, .slice B m d] w fun e w' => e = .returned (.bool s) ∧ Chg [] w w' := by
  subst hs
  exact same_any w A B n m c d xs ys hn hm hx hy hl
theorem encW_same {x y : Wd} (hx : isW x = true) (hy : isW y = true) : decide (encF (bodyW x) = encF (bodyW y)) = sameWd x y := by
  by_cases h : x = y
  · rw [sameWd_iff.2 h, decide_eq_true ((encW_inj hx hy).2 h)]
  · rw [decide_eq_false (fun he => h ((encW_inj hx hy).1 he))]
    cases hs : sameWd x y with
    | false => rfl
    | true => exact absurd (sameWd_iff.1 hs) h

set_option maxRecDepth 100000 in
set_option maxHeartbeats 6400000 in
theorem wireApart_law (w : World) (x : WdV) (hx : x.In w) (y : WdV) (hy : y.In w) :
    Calls Try.prog 7 #[.agg x.cells.toArray, .agg y.cells.toArray] w fun e w' => e = .returned (.bool true) ∧ Chg [] w w' := by
  obtain ⟨kd, o, q, sm, sc, fm, fc, A, ls, c⟩ := x
  obtain ⟨rd, cap, capm, hlen, hrs, _⟩ := hx
  simp only at rd cap capm hlen hrs
  have RD : Hid (Rd w 9 A ls.length (cRc ls)) := rd
  have RS : Hid (∀ x ∈ ls, Rd w 1 x.A x.r.val.length (cB x.r.val)) := fun x hx => (hrs x hx).rd
  have HB : Hid (∀ x ∈ ls, x.r.key.length ≤ 140737488351232 ∧ x.r.val.length ≤ 140737488351232) := fun x hx => ⟨(hrs x hx).kl, (hrs x hx).vl⟩
  have hls : ls.length ≤ 140737488351232 := by omega
  clear rd hrs cap capm hlen
  obtain ⟨kd', o', q', sm', sc', fm', fc', B, ms, d⟩ := y
  obtain ⟨rd, cap, capm, hlen, hrs, _⟩ := hy
  simp only at rd cap capm hlen hrs
  have RD2 : Hid (Rd w 9 B ms.length (cRc ms)) := rd
  have RS2 : Hid (∀ x ∈ ms, Rd w 1 x.A x.r.val.length (cB x.r.val)) := fun x hx => (hrs x hx).rd
  have HB2 : Hid (∀ x ∈ ms, x.r.key.length ≤ 140737488351232 ∧ x.r.val.length ≤ 140737488351232) := fun x hx => ⟨(hrs x hx).kl, (hrs x hx).vl⟩
  have hms : ms.length ≤ 140737488351232 := by omega
  clear rd hrs cap capm hlen
  show Calls _ _ #[.agg #[.int .i64 kd, .int .i64 o, .int .i64 q, .int .i64 sm, .int .i64 sc, .int .i64 fm, .int .i64 fc, .slice A ls.length c], .agg #[.int .i64 kd', .int .i64 o', .int .i64 q', .int .i64 sm', .int .i64 sc', .int .i64 fm', .int .i64 fc', .slice B ms.length d]] w _
  have h0 := (Chg.alloc (.refl [] w) (.cells #[.int .i64 kd, .int .i64 o, .int .i64 q, .int .i64 sm, .int .i64 sc, .int .i64 fm, .int .i64 fc, .slice A ls.length c] 26)).alloc (.cells #[.int .i64 kd', .int .i64 o', .int .i64 q', .int .i64 sm', .int .i64 sc', .int .i64 fm', .int .i64 fc', .slice B ms.length d] 26)
  have a0 := (At.new w 26 #[.int .i64 kd, .int .i64 o, .int .i64 q, .int .i64 sm, .int .i64 sc, .int .i64 fm, .int .i64 fc, .slice A ls.length c]).al (.cells #[.int .i64 kd', .int .i64 o', .int .i64 q', .int .i64 sm', .int .i64 sc', .int .i64 fm', .int .i64 fc', .slice B ms.length d] 26)
  have b0 := At.new (w.alloc (.cells #[.int .i64 kd, .int .i64 o, .int .i64 q, .int .i64 sm, .int .i64 sc, .int .i64 fm, .int .i64 fc, .slice A ls.length c] 26)) 26 #[.int .i64 kd', .int .i64 o', .int .i64 q', .int .i64 sm', .int .i64 sc', .int .i64 fm', .int .i64 fc', .slice B ms.length d]
  have hsz : (w.alloc (.cells #[.int .i64 kd, .int .i64 o, .int .i64 q, .int .i64 sm, .int .i64 sc, .int .i64 fm, .int .i64 fc, .slice A ls.length c] 26)).heap.size = w.heap.size + 1 := by simp
  rw [hsz] at b0
  go_enter Try.func7, Try.ntmps7
  go_wp2_with (fail)
  refine (heavyW_any _ kd o q sm sc fm fc A _ c ls rfl (RD.out.keep0 h0) hls HB.out).mono ?_
  rintro e w1 ⟨hv1, rfl, hlight, hch1⟩
  have a1 := a0.keep hch1 (by simp)
  have b1 := b0.keep hch1 (by simp)
  have c1 := h0.trans hch1 (by simp)
  clear a0 b0 h0 hch1 hsz
  have y0 := a1.cell 0
  have y1 := a1.cell 1
  have y2 := a1.cell 2
  have y3 := a1.cell 3
  have y4 := a1.cell 4
  have y5 := a1.cell 5
  have y6 := a1.cell 6
  have y7 := a1.cell 7
  simp only [List.getElem?_toArray, List.getElem?_cons_zero, List.getElem?_cons_succ] at y0 y1 y2 y3 y4 y5 y6 y7
  have u0 := b1.cell 0
  have u1 := b1.cell 1
  have u2 := b1.cell 2
  have u3 := b1.cell 3
  have u4 := b1.cell 4
  have u5 := b1.cell 5
  have u6 := b1.cell 6
  have u7 := b1.cell 7
  simp only [List.getElem?_toArray, List.getElem?_cons_zero, List.getElem?_cons_succ] at u0 u1 u2 u3 u4 u5 u6 u7
  cases hv1
  rotate_left
  · go_wp2_with (fail)
    go_ret
    exact ⟨rfl, c1⟩
  have hl4 := hlight rfl
  have hl400 : ls.length ≤ 400 := by omega
  clear hlight hl4
  go_wp2_with (fail)
  refine (heavyW_any w1 kd' o' q' sm' sc' fm' fc' B _ d ms rfl (RD2.out.keep0 c1) hms HB2.out).mono ?_
  rintro e w2 ⟨hv2, rfl, hlight, hch2⟩
  have a2 := a1.keep hch2 (by simp)
  have b2 := b1.keep hch2 (by simp)
  have c2 := c1.trans hch2 (by simp)
  clear y0 y1 y2 y3 y4 y5 y6 y7 u0 u1 u2 u3 u4 u5 u6 u7 a1 b1 c1 hch2
  have y0 := a2.cell 0
  have y1 := a2.cell 1
  have y2 := a2.cell 2
  have y3 := a2.cell 3
  have y4 := a2.cell 4
  have y5 := a2.cell 5
  have y6 := a2.cell 6
  have y7 := a2.cell 7
  simp only [List.getElem?_toArray, List.getElem?_cons_zero, List.getElem?_cons_succ] at y0 y1 y2 y3 y4 y5 y6 y7
  have u0 := b2.cell 0
  have u1 := b2.cell 1
  have u2 := b2.cell 2
  have u3 := b2.cell 3
  have u4 := b2.cell 4
  have u5 := b2.cell 5
  have u6 := b2.cell 6
  have u7 := b2.cell 7
  simp only [List.getElem?_toArray, List.getElem?_cons_zero, List.getElem?_cons_succ] at u0 u1 u2 u3 u4 u5 u6 u7
  cases hv2
  rotate_left
  · go_wp2_with (fail)
    go_ret
    exact ⟨rfl, c2⟩
  have hl4 := hlight rfl
  have hm400 : ms.length ≤ 400 := by omega
  clear hlight hl4
  go_wp2_with (fail)
  refine (wEncode_any w2 kd o q sm sc fm fc A _ c ls rfl (RD.out.keep0 c2) (fun x hx => (RS.out x hx).keep0 c2) (by omega)).mono ?_
  rintro e w3 ⟨A3, c3, rfl, hnb3⟩
  have a3 := a2.keep hnb3.2.2.2.1 (by simp)
  have b3 := b2.keep hnb3.2.2.2.1 (by simp)
  have cc3 := c2.trans hnb3.2.2.2.1 (by simp)
  have r3 := hnb3.1
  clear y0 y1 y2 y3 y4 y5 y6 y7 u0 u1 u2 u3 u4 u5 u6 u7 a2 b2 c2 hnb3
  have y0 := a3.cell 0
  have y1 := a3.cell 1
  have y2 := a3.cell 2
  have y3 := a3.cell 3
  have y4 := a3.cell 4
  have y5 := a3.cell 5
  have y6 := a3.cell 6
  have y7 := a3.cell 7
  simp only [List.getElem?_toArray, List.getElem?_cons_zero, List.getElem?_cons_succ] at y0 y1 y2 y3 y4 y5 y6 y7
  have u0 := b3.cell 0
  have u1 := b3.cell 1
  have u2 := b3.cell 2
  have u3 := b3.cell 3
  have u4 := b3.cell 4
  have u5 := b3.cell 5
  have u6 := b3.cell 6
  have u7 := b3.cell 7
  simp only [List.getElem?_toArray, List.getElem?_cons_zero, List.getElem?_cons_succ] at u0 u1 u2 u3 u4 u5 u6 u7
  go_wp2_with (fail)
  refine (wEncode_any w3 kd' o' q' sm' sc' fm' fc' B _ d ms rfl (RD2.out.keep0 cc3) (fun x hx => (RS2.out x hx).keep0 cc3) (by omega)).mono ?_
  rintro e w4 ⟨A4, c4, rfl, hnb4⟩
  have a4 := a3.keep hnb4.2.2.2.1 (by simp)
  have b4 := b3.keep hnb4.2.2.2.1 (by simp)
  have cc4 := cc3.trans hnb4.2.2.2.1 (by simp)
  have r34 := r3.keep0 hnb4.2.2.2.1
  have r4 := hnb4.1
  clear y0 y1 y2 y3 y4 y5 y6 y7 u0 u1 u2 u3 u4 u5 u6 u7 a3 b3 cc3 hnb4 r3
  have y0 := a4.cell 0
  have y1 := a4.cell 1
  have y2 := a4.cell 2
  have y3 := a4.cell 3
  have y4 := a4.cell 4
  have y5 := a4.cell 5
  have y6 := a4.cell 6
  have y7 := a4.cell 7
  simp only [List.getElem?_toArray, List.getElem?_cons_zero, List.getElem?_cons_succ] at y0 y1 y2 y3 y4 y5 y6 y7
  have u0 := b4.cell 0
  have u1 := b4.cell 1
  have u2 := b4.cell 2
  have u3 := b4.cell 3
  have u4 := b4.cell 4
  have u5 := b4.cell 5
  have u6 := b4.cell 6
  have u7 := b4.cell 7
  simp only [List.getElem?_toArray, List.getElem?_cons_zero, List.getElem?_cons_succ] at u0 u1 u2 u3 u4 u5 u6 u7
  obtain ⟨s1, hs1⟩ : ∃ s, Hid (isW ⟨kd, o, q, sm, sc, fm, fc, ls.map RcV.r⟩ = s) := ⟨_, rfl⟩
  obtain ⟨s2, hs2⟩ : ∃ s, Hid (isW ⟨kd', o', q', sm', sc', fm', fc', ms.map RcV.r⟩ = s) := ⟨_, rfl⟩
  by_cases hss : s1 = true ∧ s2 = true
  rotate_left
  · have h12 : s1 = false ∨ (s1 = true ∧ s2 = false) := by cases s1 <;> cases s2 <;> simp_all
    have e1 : (encW ⟨kd, o, q, sm, sc, fm, fc, ls.map RcV.r⟩).2 = (if s1 then 0 else 1) := by rw [← hs1.out]; unfold encW; split <;> simp_all
    have e2 : (encW ⟨kd', o', q', sm', sc', fm', fc', ms.map RcV.r⟩).2 = (if s2 then 0 else 1) := by rw [← hs2.out]; unfold encW; split <;> simp_all
    rw [e1, e2]
    generalize (encW ⟨kd, o, q, sm, sc, fm, fc, ls.map RcV.r⟩).1 = E at *
    generalize (encW ⟨kd', o', q', sm', sc', fm', fc', ms.map RcV.r⟩).1 = G at *
    clear hss e1 e2
    have go : ∀ b1 b2 : Bool, True := fun _ _ => trivial
    rcases h12 with rfl | ⟨rfl, rfl⟩ <;> first | (cases s2 <;> skip) | skip
    all_goals
      simp only [if_true, if_false, Bool.false_eq_true]
      go_wp2_with (fail)
      refine (refIsW_any w4 kd o q sm sc fm fc A _ c ls rfl (RD.out.keep0 cc4) (by omega)).mono ?_
      rintro e w5 ⟨rfl, hch5⟩
      rw [hs1.out]
      have b5 := b4.keep hch5 (by simp)
      have cc5 := cc4.trans hch5 (by simp)
      have v0 := b5.cell 0
      have v1 := b5.cell 1
      have v2 := b5.cell 2
      have v3 := b5.cell 3
      have v4 := b5.cell 4
      have v5 := b5.cell 5
      have v6 := b5.cell 6
      have v7 := b5.cell 7
      simp only [List.getElem?_toArray, List.getElem?_cons_zero, List.getElem?_cons_succ] at v0 v1 v2 v3 v4 v5 v6 v7
      go_wp2_with (fail)
      refine (refIsW_any w5 kd' o' q' sm' sc' fm' fc' B _ d ms rfl (RD2.out.keep0 cc5) (by omega)).mono ?_
      rintro e w6 ⟨rfl, hch6⟩
      rw [hs2.out]
      have cc6 := cc5.trans hch6 (by simp)
      go_wp2_with (go_at_call 14; (with_reducible refine (knownW_any _).mono ?_); rintro e w9 ⟨rfl, hch9⟩)
      go_ret
      exact ⟨rfl, cc6.trans hch9 (by simp)⟩
  obtain ⟨rfl, rfl⟩ := hss
  have hsm := Lib.hid (encW_same hs1.out hs2.out)
  have hb1 := bodyW_len hs1.out
  have hf1 := encF_len (bodyW ⟨kd, o, q, sm, sc, fm, fc, ls.map RcV.r⟩)
  rw [encW_yes hs1.out, encW_yes hs2.out] at *
  simp only at r34 r4 ⊢
  obtain ⟨E, hE⟩ : ∃ E, Hid (encF (bodyW ⟨kd, o, q, sm, sc, fm, fc, ls.map RcV.r⟩) = E) := ⟨_, rfl⟩
  obtain ⟨G, hG⟩ : ∃ G, Hid (encF (bodyW ⟨kd', o', q', sm', sc', fm', fc', ms.map RcV.r⟩) = G) := ⟨_, rfl⟩
  rw [hE.out] at r34 hf1 hsm ⊢
  rw [hG.out] at r4 hsm ⊢
  obtain ⟨s, hs⟩ : ∃ s, Hid (sameWd ⟨kd, o, q, sm, sc, fm, fc, ls.map RcV.r⟩ ⟨kd', o', q', sm', sc', fm', fc', ms.map RcV.r⟩ = s) := ⟨_, rfl⟩
  rw [hs.out] at hsm
  have a5 := a4
  have b5 := b4
  have hEl : E.length ≤ 80000 := by omega
  clear hE hG hb1 hf1 hs1 hs2 a4 b4
  have KK : Hid (∀ w', Chg [] w4 w' → w'.cell? ⟨w.heap.size, 0, none⟩ = some (.int .i64 kd) ∧ w'.cell? ⟨w.heap.size, 1, none⟩ = some (.int .i64 o) ∧ w'.cell? ⟨w.heap.size, 2, none⟩ = some (.int .i64 q) ∧ w'.cell? ⟨w.heap.size, 3, none⟩ = some (.int .i64 sm) ∧ w'.cell? ⟨w.heap.size, 4, none⟩ = some (.int .i64 sc) ∧ w'.cell? ⟨w.heap.size, 5, none⟩ = some (.int .i64 fm) ∧ w'.cell? ⟨w.heap.size, 6, none⟩ = some (.int .i64 fc) ∧ w'.cell? ⟨w.heap.size, 7, none⟩ = some (.slice A ls.length c) ∧ w'.cell? ⟨w.heap.size + 1, 0, none⟩ = some (.int .i64 kd') ∧ w'.cell? ⟨w.heap.size + 1, 1, none⟩ = some (.int .i64 o') ∧ w'.cell? ⟨w.heap.size + 1, 2, none⟩ = some (.int .i64 q') ∧ w'.cell? ⟨w.heap.size + 1, 3, none⟩ = some (.int .i64 sm') ∧ w'.cell? ⟨w.heap.size + 1, 4, none⟩ = some (.int .i64 sc') ∧ w'.cell? ⟨w.heap.size + 1, 5, none⟩ = some (.int .i64 fm') ∧ w'.cell? ⟨w.heap.size + 1, 6, none⟩ = some (.int .i64 fc') ∧ w'.cell? ⟨w.heap.size + 1, 7, none⟩ = some (.slice B ms.length d)) := fun w' hc => ⟨(a5.keep hc (by simp)).cell 0, (a5.keep hc (by simp)).cell 1, (a5.keep hc (by simp)).cell 2, (a5.keep hc (by simp)).cell 3, (a5.keep hc (by simp)).cell 4, (a5.keep hc (by simp)).cell 5, (a5.keep hc (by simp)).cell 6, (a5.keep hc (by simp)).cell 7, (b5.keep hc (by simp)).cell 0, (b5.keep hc (by simp)).cell 1, (b5.keep hc (by simp)).cell 2, (b5.keep hc (by simp)).cell 3, (b5.keep hc (by simp)).cell 4, (b5.keep hc (by simp)).cell 5, (b5.keep hc (by simp)).cell 6, (b5.keep hc (by simp)).cell 7⟩
  go_wp2_with (fail)
  go_region_held3 (fun w' => w'.cell? ⟨w.heap.size, 0, none⟩ = some (.int .i64 kd) ∧ w'.cell? ⟨w.heap.size, 1, none⟩ = some (.int .i64 o) ∧ w'.cell? ⟨w.heap.size, 2, none⟩ = some (.int .i64 q) ∧ w'.cell? ⟨w.heap.size, 3, none⟩ = some (.int .i64 sm) ∧ w'.cell? ⟨w.heap.size, 4, none⟩ = some (.int .i64 sc) ∧ w'.cell? ⟨w.heap.size, 5, none⟩ = some (.int .i64 fm) ∧ w'.cell? ⟨w.heap.size, 6, none⟩ = some (.int .i64 fc) ∧ w'.cell? ⟨w.heap.size, 7, none⟩ = some (.slice A ls.length c) ∧ w'.cell? ⟨w.heap.size + 1, 0, none⟩ = some (.int .i64 kd') ∧ w'.cell? ⟨w.heap.size + 1, 1, none⟩ = some (.int .i64 o') ∧ w'.cell? ⟨w.heap.size + 1, 2, none⟩ = some (.int .i64 q') ∧ w'.cell? ⟨w.heap.size + 1, 3, none⟩ = some (.int .i64 sm') ∧ w'.cell? ⟨w.heap.size + 1, 4, none⟩ = some (.int .i64 sc') ∧ w'.cell? ⟨w.heap.size + 1, 5, none⟩ = some (.int .i64 fm') ∧ w'.cell? ⟨w.heap.size + 1, 6, none⟩ = some (.int .i64 fc') ∧ w'.cell? ⟨w.heap.size + 1, 7, none⟩ = some (.slice B ms.length d)) (first | go_keep | exact KK.out _ (by repeat' (first | (with_reducible assumption) | (with_reducible exact Chg.refl _ _) | (with_reducible refine Chg.alloc ?_ _) | (with_reducible refine Chg.drewN ?_ _) | (with_reducible refine Chg.drew ?_) | (with_reducible refine Chg.strW ?_ _ _) | (with_reducible refine Chg.t0 ?_ (by with_reducible assumption)))) | fail)
    (first
      | (go_simp; go_at_call 12; (with_reducible refine (same_t2 _ A3 A4 _ _ c3 c4 E G s hsm.out rfl rfl (Rd.k0 r34 (by repeat' (first | (with_reducible assumption) | (with_reducible exact Chg.refl _ _) | (with_reducible refine Chg.alloc ?_ _) | (with_reducible refine Chg.drewN ?_ _) | (with_reducible refine Chg.drew ?_) | (with_reducible refine Chg.strW ?_ _ _) | (with_reducible refine Chg.t0 ?_ (by with_reducible assumption))))) (Rd.k0 r4 (by repeat' (first | (with_reducible assumption) | (with_reducible exact Chg.refl _ _) | (with_reducible refine Chg.alloc ?_ _) | (with_reducible refine Chg.drewN ?_ _) | (with_reducible refine Chg.drew ?_) | (with_reducible refine Chg.strW ?_ _ _) | (with_reducible refine Chg.t0 ?_ (by with_reducible assumption))))) (by omega)).mono ?_); rintro e w5 ⟨rfl, hch5⟩; have hk5 : Hid (Chg [] w4 w5) := ((by repeat' (first | (with_reducible assumption) | (with_reducible exact Chg.refl _ _) | (with_reducible refine Chg.alloc ?_ _) | (with_reducible refine Chg.drewN ?_ _) | (with_reducible refine Chg.drew ?_) | (with_reducible refine Chg.strW ?_ _ _) | (with_reducible refine Chg.t0 ?_ (by with_reducible assumption)))) : Chg [] w4 w5); obtain ⟨y0, y1, y2, y3, y4, y5, y6, y7, u0, u1, u2, u3, u4, u5, u6, u7⟩ := KK.out w5 hk5.out)
      | (go_simp; go_at_call 13; (with_reducible refine (words_to _ kd o q sm sc fm fc kd' o' q' sm' sc' fm' fc' A B _ _ c d ls ms s hs.out rfl rfl (Rd.k0 (RD.out.keep0 cc4) (by repeat' (first | (with_reducible assumption) | (with_reducible exact Chg.refl _ _) | (with_reducible refine Chg.alloc ?_ _) | (with_reducible refine Chg.drewN ?_ _) | (with_reducible refine Chg.drew ?_) | (with_reducible refine Chg.strW ?_ _ _) | (with_reducible refine Chg.t0 ?_ (by with_reducible assumption))))) (Rd.k0 (RD2.out.keep0 cc4) (by repeat' (first | (with_reducible assumption) | (with_reducible exact Chg.refl _ _) | (with_reducible refine Chg.alloc ?_ _) | (with_reducible refine Chg.drewN ?_ _) | (with_reducible refine Chg.drew ?_) | (with_reducible refine Chg.strW ?_ _ _) | (with_reducible refine Chg.t0 ?_ (by with_reducible assumption))))) (fun x hx => Rd.k0 ((RS.out x hx).keep0 cc4) (by repeat' (first | (with_reducible assumption) | (with_reducible exact Chg.refl _ _) | (with_reducible refine Chg.alloc ?_ _) | (with_reducible refine Chg.drewN ?_ _) | (with_reducible refine Chg.drew ?_) | (with_reducible refine Chg.strW ?_ _ _) | (with_reducible refine Chg.t0 ?_ (by with_reducible assumption))))) (fun x hx => Rd.k0 ((RS2.out x hx).keep0 cc4) (by repeat' (first | (with_reducible assumption) | (with_reducible exact Chg.refl _ _) | (with_reducible refine Chg.alloc ?_ _) | (with_reducible refine Chg.drewN ?_ _) | (with_reducible refine Chg.drew ?_) | (with_reducible refine Chg.strW ?_ _ _) | (with_reducible refine Chg.t0 ?_ (by with_reducible assumption))))) (by omega)).mono ?_); rintro e w6 ⟨rfl, hch6⟩; have hk6 : Hid (Chg [] w4 w6) := ((by repeat' (first | (with_reducible assumption) | (with_reducible exact Chg.refl _ _) | (with_reducible refine Chg.alloc ?_ _) | (with_reducible refine Chg.drewN ?_ _) | (with_reducible refine Chg.drew ?_) | (with_reducible refine Chg.strW ?_ _ _) | (with_reducible refine Chg.t0 ?_ (by with_reducible assumption)))) : Chg [] w4 w6); obtain ⟨y0, y1, y2, y3, y4, y5, y6, y7, u0, u1, u2, u3, u4, u5, u6, u7⟩ := KK.out w6 hk6.out)
      | (go_simp; go_at_call 14; (with_reducible refine (knownW_any _).mono ?_); rintro e w9 ⟨rfl, hch9⟩; have hk9 : Hid (Chg [] w4 w9) := ((by repeat' (first | (with_reducible assumption) | (with_reducible exact Chg.refl _ _) | (with_reducible refine Chg.alloc ?_ _) | (with_reducible refine Chg.drewN ?_ _) | (with_reducible refine Chg.drew ?_) | (with_reducible refine Chg.strW ?_ _ _) | (with_reducible refine Chg.t0 ?_ (by with_reducible assumption)))) : Chg [] w4 w9); obtain ⟨y0, y1, y2, y3, y4, y5, y6, y7, u0, u1, u2, u3, u4, u5, u6, u7⟩ := KK.out w9 hk9.out))
  all_goals
    go_wp2_with (fail)
    go_ret
    exact ⟨rfl, cc4.trans (show Chg [] w4 _ from (by repeat' (first | (with_reducible assumption) | (with_reducible exact Chg.refl _ _) | (with_reducible refine Chg.alloc ?_ _) | (with_reducible refine Chg.drewN ?_ _) | (with_reducible refine Chg.drew ?_) | (with_reducible refine Chg.strW ?_ _ _) | (with_reducible refine Chg.t0 ?_ (by with_reducible assumption))))) (by simp)⟩
end Go.Proofs.Ytkdbjhmffnjimaa
