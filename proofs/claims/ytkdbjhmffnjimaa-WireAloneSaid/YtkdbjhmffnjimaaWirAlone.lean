
/-
  WireAlone: the walk of the law.
-/
import Derived.Test.YtkdbjhmffnjimaaWirA2
import Derived.Test.YtkdbjhmffnjimaaWirA3
import Derived.OpenShut
namespace Go.Proofs.Ytkdbjhmffnjimaa
open Go.RowKit
set_option linter.unusedVariables false

set_option maxRecDepth 100000 in
set_option maxHeartbeats 6400000 in
theorem wireAlone_law (w : World) (x : WdV) (hx : x.In w) (y : SlB) (hy : RdB w y ∧ y.bs.length ≤ y.c ∧ y.c ≤ maxLen ∧ y.bs.length ≤ 140737488351232) :
    Calls Try.prog 8 #[.agg x.cells.toArray, .slice y.A y.bs.length y.c] w fun e w' => e = .returned (.bool true) ∧ Chg [] w w' := by
  obtain ⟨i0, hi, hz0, hz1, hz2⟩ := info_parts info8
  obtain ⟨kd, o, q, sm, sc, fm, fc, A, ls, c⟩ := x
  obtain ⟨rd, cap, capm, hlen, hrs, _⟩ := hx
  simp only at rd cap capm hlen hrs
  have RD : Hid (Rd w 9 A ls.length (cRc ls)) := rd
  have RS : Hid (∀ x ∈ ls, Rd w 1 x.A x.r.val.length (cB x.r.val)) := fun x hx => (hrs x hx).rd
  have HB : Hid (∀ x ∈ ls, x.r.key.length ≤ 140737488351232 ∧ x.r.val.length ≤ 140737488351232) := fun x hx => ⟨(hrs x hx).kl, (hrs x hx).vl⟩
  have hls : ls.length ≤ 140737488351232 := by omega
  clear rd hrs cap capm hlen
  obtain ⟨B, d, m⟩ := y
  obtain ⟨ry, hyc, _, hyl⟩ := hy
  simp only [RdB] at ry hyc hyl ⊢
  have RY := Lib.hid ry
  clear ry
  show Calls _ _ #[.agg #[.int .i64 kd, .int .i64 o, .int .i64 q, .int .i64 sm, .int .i64 sc, .int .i64 fm, .int .i64 fc, .slice A ls.length c], .slice B m.length d] w _
  have h0 := Chg.alloc (.refl [] w) (.cells #[.int .i64 kd, .int .i64 o, .int .i64 q, .int .i64 sm, .int .i64 sc, .int .i64 fm, .int .i64 fc, .slice A ls.length c] 26)
  have a0 := At.new w 26 #[.int .i64 kd, .int .i64 o, .int .i64 q, .int .i64 sm, .int .i64 sc, .int .i64 fm, .int .i64 fc, .slice A ls.length c]
  go_enter Try.func8, Try.ntmps8
  go_wp2_with (fail)
  refine (heavyW_any _ kd o q sm sc fm fc A _ c ls rfl (RD.out.alloc _) hls HB.out).mono ?_
  rintro e w1 ⟨hv1, rfl, hlight, hch1⟩
  have a1 := a0.keep hch1 (by simp)
  have c1 := h0.trans hch1 (by simp)
  clear a0 h0 hch1
  cases hv1
  rotate_left
  · go_wp2_with (fail)
    go_ret
    exact ⟨rfl, c1⟩
  have hl4 := hlight rfl
  have hls2 : ls.length ≤ 400 := by omega
  clear hlight hl4
  have y0 := a1.cell 0
  have y1 := a1.cell 1
  have y2 := a1.cell 2
  have y3 := a1.cell 3
  have y4 := a1.cell 4
  have y5 := a1.cell 5
  have y6 := a1.cell 6
  have y7 := a1.cell 7
  simp only [List.getElem?_toArray, List.getElem?_cons_zero, List.getElem?_cons_succ] at y0 y1 y2 y3 y4 y5 y6 y7
  by_cases hm8 : 8000 < m.length
  · go_wp2_with (fail)
    go_ret
    exact ⟨rfl, c1⟩
  go_wp2_with (fail)
  refine (wEncode_any w1 kd o q sm sc fm fc A _ c ls rfl (RD.out.keep0 c1) (fun x hx => (RS.out x hx).keep0 c1) (by omega)).mono ?_
  rintro e w2 ⟨A2, c2, rfl, hnb⟩
  obtain ⟨s, hs⟩ : ∃ s, Hid (isW ⟨kd, o, q, sm, sc, fm, fc, ls.map RcV.r⟩ = s) := ⟨_, rfl⟩
  have a2 := a1.keep hnb.2.2.2.1 (by simp)
  have cc2 := c1.trans hnb.2.2.2.1 (by simp)
  clear y0 y1 y2 y3 y4 y5 y6 y7
  have y0 := a2.cell 0
  have y1 := a2.cell 1
  have y2 := a2.cell 2
  have y3 := a2.cell 3
  have y4 := a2.cell 4
  have y5 := a2.cell 5
  have y6 := a2.cell 6
  have y7 := a2.cell 7
  simp only [List.getElem?_toArray, List.getElem?_cons_zero, List.getElem?_cons_succ] at y0 y1 y2 y3 y4 y5 y6 y7
  cases s
  · rw [encW_no hs.out]
    go_wp2_with (fail)
    refine (refIsW_any w2 kd o q sm sc fm fc A _ c ls rfl (RD.out.keep0 cc2) (by omega)).mono ?_
    rintro e w3 ⟨rfl, hch3⟩
    rw [hs.out]
    go_wp2_with (go_at_call 14; (with_reducible refine (knownW_any _).mono ?_); rintro e w9 ⟨rfl, hch9⟩)
    go_ret
    exact ⟨rfl, (cc2.trans hch3 (by simp)).trans hch9 (by simp)⟩
  rw [encW_yes hs.out] at hnb ⊢
  simp only at hnb ⊢
  obtain ⟨r2, hcap2, -, -, -⟩ := hnb
  have hbl := bodyW_len hs.out
  have hel := encF_len (bodyW ⟨kd, o, q, sm, sc, fm, fc, ls.map RcV.r⟩)
  have HD0 := Lib.hid (decW_enc hs.out)
  have HD1 := Lib.hid (fun X hX => decW_more hs.out (X := X) hX)
  obtain ⟨E, hE⟩ : ∃ E, Hid (encF (bodyW ⟨kd, o, q, sm, sc, fm, fc, ls.map RcV.r⟩) = E) := ⟨_, rfl⟩
  rw [hE.out] at r2 hcap2 hel HD0 HD1 ⊢
  have hEl : E.length ≤ 80000 := by omega
  have hEp : 0 < E.length := by omega
  have hs2 := cc2.size
  clear hbl hel hE y0 y1 y2 y3 y4 y5 y6 y7
  go_wp2_with (first
    | (at_builtin
       refine wpList_append_rd _ rfl (.tmp 30) (.tmp 31) 28 (by rfl) w2.heap.size 5 i0 _ 1 1 Try.underlying28 hi hz0 hz1 hz2 rfl (by omega) (.slice (some ⟨w2.heap.size, 0, none⟩) 0 0) 0 [] (by rfl) (World.ownsRow_made w2 #[] 0 (Nat.le_refl _) (by simp [maxLen]) rfl) A2 E.length c2 (cB E) (by rfl) (r2.alloc _) (cB_one _) (by unfold maxLen; omega) (by omega) (by simp) ?_
       intro A3 c3 w3 hown3 hg3 hb3
       simp only [Nat.zero_add, List.nil_append] at hown3
       have hch3 : Chg [] w2 w3 := ((Chg.refl [] w2).alloc _).grown hg3 (fun k hk => .inr (by simp [Value.ownBlock] at hk; omega))
       have cc3 := cc2.trans hch3 (by simp)
       have hs3 := hch3.size
       clear hg3 hb3)
    | (at_builtin
       refine wpList_append_rd _ rfl (.tmp 32) (.tmp 33) 28 (by rfl) w2.heap.size 5 i0 _ 1 1 Try.underlying28 hi hz0 hz1 hz2 rfl (by omega) (.slice A3 E.length c3) E.length (cB E) (by rfl) hown3 B m.length d (cB m) (by rfl) (RY.out.keep0 cc3) (cB_one _) (by unfold maxLen; omega) (by omega) (by omega) ?_
       intro A4 c4 w4 hown4 hg4 hb4
       have cc4 : Chg [] w w4 := cc3.grown hg4 (fun k hk => .inr (by have := (hown3.lt k hk).1; omega))
       clear hg4 hb4))
  rw [← cB_app] at hown4
  have hca := own_cap hown4
  have lE : Hid ((E ++ m).length = E.length + m.length) := by unfold Hid; simp
  have HDC := Lib.hid (wDecode_any w4 A4 (E.length + m.length) c4 (E ++ m) lE.out (by rw [lE.out]; exact Rd.of_own hown4) (by rw [lE.out]; exact hca) (by rw [lE.out]; omega))
  clear hown4 hca lE r2 hown3 hch3 cc3 hcap2
  by_cases hm0 : m = []
  · have hd : decW (E ++ m) = (⟨kd, o, q, sm, sc, fm, fc, ls.map RcV.r⟩, 0) := by rw [hm0, List.append_nil]; exact HD0.out
    have hml : ((m.length : Int) == 0) = true := by rw [hm0]; rfl
    rw [hd] at HDC
    have HM0 := Lib.hid hm0
    clear hm0 hd
    refine HDC.out.mono ?_
    rintro e w5 ⟨⟨xk, xo, xq, xsm, xsc, xfm, xfc, A5, l5, c5⟩, rfl, hx5, hown5, hO5, hch5⟩
    simp only [WdV.cells]
    have cc5 := cc4.trans hch5 (by simp)
    clear HDC hown5 hO5 hx5
    go_wp2_with (go_at_call 14; (with_reducible refine (knownW_any _).mono ?_); rintro e w9 ⟨rfl, hch9⟩)
    go_ret
    exact ⟨rfl, (cc5.alloc _).trans hch9 (by simp)⟩
  · have hd := HD1.out m hm0
    have hml : ((m.length : Int) == 0) = false := by
      rw [beq_eq_false_iff_ne]; intro h; exact hm0 (List.length_eq_zero_iff.1 (by omega))
    rw [hd] at HDC
    have HM0 := Lib.hid hm0
    clear hm0 hd
    refine HDC.out.mono ?_
    rintro e w5 ⟨⟨xk, xo, xq, xsm, xsc, xfm, xfc, A5, l5, c5⟩, rfl, hx5, hown5, hO5, hch5⟩
    simp only [WdV.cells]
    have cc5 := cc4.trans hch5 (by simp)
    clear HDC hown5 hO5 hx5
    go_wp2_with (go_at_call 14; (with_reducible refine (knownW_any _).mono ?_); rintro e w9 ⟨rfl, hch9⟩)
    go_ret
    exact ⟨rfl, (cc5.alloc _).trans hch9 (by simp)⟩
end Go.Proofs.Ytkdbjhmffnjimaa
