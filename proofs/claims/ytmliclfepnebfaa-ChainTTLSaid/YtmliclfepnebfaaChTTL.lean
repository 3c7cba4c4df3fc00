
/-
  ChainTTL: the walk of the law.
-/
import Derived.Test.YtmliclfepnebfaaChTTL0
import Derived.Test.YtmliclfepnebfaaOpenV
namespace Go.Proofs.Ytmliclfepnebfaa
open Go.RowKit
set_option linter.unusedVariables false
set_option linter.unusedSimpArgs false
set_option maxRecDepth 100000 in
set_option maxHeartbeats 12800000 in
theorem chainTTL_law (w : World) (x : VrV) (hx : x.InN w) (by_ : Int) (hb : (Lit.int .i64 by_).wf = true) (ct : Int) (hct : (Lit.int .i64 ct).wf = true) :
    Calls Try.prog 6 #[.agg x.cells.toArray, .int .i64 by_, .int .i64 ct] w fun e w' => e = .returned (.bool true) ∧ Chg [] w w' := by
  obtain ⟨m, c, o, A, d, p, g, t⟩ := x
  have hrd : Rd w 1 A d.length (cB d) := hx.rd
  have hnil : A = none → p = 0 := hx.nil_
  have hvl : d.length ≤ 140737488351232 := hx.vl
  clear hx hct hb
  show Calls Try.prog 6 #[.agg #[.int .i64 m, .int .i64 c, .int .i64 o, .slice A d.length p, .bool g, .int .i64 t], .int .i64 by_, .int .i64 ct] w _
  have HB0 := Lib.hid (At.new w 28 #[.int .i64 m, .int .i64 c, .int .i64 o, .slice A d.length p, .bool g, .int .i64 t])
  have HC0 := Lib.hid ((Chg.refl [] w).alloc (.cells #[.int .i64 m, .int .i64 c, .int .i64 o, .slice A d.length p, .bool g, .int .i64 t] 28))
  have HR := Lib.hid (hrd.keep0 HC0.out)
  clear hrd
  obtain ⟨bv, HV⟩ : ∃ bv, Hid (isV m c o d g t = bv) := ⟨_, Lib.hid rfl⟩
  have x0 := HB0.out.cell 0
  have x1 := HB0.out.cell 1
  have x2 := HB0.out.cell 2
  have x3 := HB0.out.cell 3
  have x4 := HB0.out.cell 4
  have x5 := HB0.out.cell 5
  simp only [List.getElem?_toArray, List.getElem?_cons_zero, List.getElem?_cons_succ] at x0 x1 x2 x3 x4 x5
  go_enter Try.func6, Try.ntmps6
  go_wp2_with (fail)
  generalize w.alloc (.cells #[.int .i64 m, .int .i64 c, .int .i64 o, .slice A d.length p, .bool g, .int .i64 t] 28) = wz at *
  generalize hg0 : w.heap.size = g0 at *
  refine (refVersion_any wz m c o A d p g t).mono ?_
  rw [HV.out]
  rintro e w1 ⟨rfl, hc1⟩
  have HB1 := Lib.hid (HB0.out.keep hc1 (by simp))
  have HC1 : Hid (Chg [] w w1) := HC0.out.trans hc1 (by simp)
  have HR1 := Lib.hid (HR.out.keep0 hc1)
  clear x0 x1 x2 x3 x4 x5
  clear HB0 HC0 HR hc1
  have x0 := HB1.out.cell 0
  have x1 := HB1.out.cell 1
  have x2 := HB1.out.cell 2
  have x3 := HB1.out.cell 3
  have x4 := HB1.out.cell 4
  have x5 := HB1.out.cell 5
  simp only [List.getElem?_toArray, List.getElem?_cons_zero, List.getElem?_cons_succ] at x0 x1 x2 x3 x4 x5
  by_cases h2 : 2000 < d.length
  · have h2i : decide ((2000 : Int) < (d.length : Int)) = true := decide_eq_true (by omega)
    cases bv
    · go_wp2_with (fail)
      refine (chIs_any w1 m c o A d p g t).mono ?_
      rw [HV.out]
      rintro e w2 ⟨rfl, hc2⟩
      have HCC : Hid (Chg [] w w2) := HC1.out.trans hc2 (by simp)
      clear x0 x1 x2 x3 x4 x5
      clear hc2
      go_wp2_with (fail)
      refine (known_any _).mono ?_
      rintro e wk ⟨rfl, hck⟩
      go_wp2_with (fail)
      go_ret
      exact ⟨rfl, HCC.out.trans hck (by simp)⟩
    · go_wp2_with (fail)
      refine (chIs_any w1 m c o A d p g t).mono ?_
      rw [HV.out]
      rintro e w2 ⟨rfl, hc2⟩
      have HCC : Hid (Chg [] w w2) := HC1.out.trans hc2 (by simp)
      clear x0 x1 x2 x3 x4 x5
      have HB2 := Lib.hid (HB1.out.keep hc2 (by simp))
      clear hc2
      have x3 := HB2.out.cell 3
      simp only [List.getElem?_toArray, List.getElem?_cons_zero, List.getElem?_cons_succ] at x3
      go_wp2_with (fail)
      go_ret
      exact ⟨rfl, HCC.out⟩
  have h2i : decide ((2000 : Int) < (d.length : Int)) = false := decide_eq_false (by omega)
  cases bv
  · go_wp2_with (fail)
    refine (chIs_any w1 m c o A d p g t).mono ?_
    rw [HV.out]
    rintro e w2 ⟨rfl, hc2⟩
    have HCC : Hid (Chg [] w w2) := HC1.out.trans hc2 (by simp)
    clear x0 x1 x2 x3 x4 x5
    clear hc2
    go_wp2_with (fail)
    refine (known_any _).mono ?_
    rintro e wk ⟨rfl, hck⟩
    go_wp2_with (fail)
    go_ret
    exact ⟨rfl, HCC.out.trans hck (by simp)⟩
  have HI := Lib.hid (isVV_iff.1 (show isVV ⟨m, c, o, d, g, t⟩ = true from HV.out))
  have hm := HI.out.m0
  simp only at hm
  have HCC := HC1
  by_cases b1 : by_ < -281474976710656
  · have b1i : decide (by_ < -281474976710656) = true := decide_eq_true b1
    go_wp2_with (fail)
    refine (known_any _).mono ?_
    rintro e wk ⟨rfl, hck⟩
    go_wp2_with (fail)
    go_ret
    exact ⟨rfl, HCC.out.trans hck (by simp)⟩
  by_cases b2 : 281474976710656 < by_
  · have b1i : decide (by_ < -281474976710656) = false := decide_eq_false b1
    have b2i : decide (281474976710656 < by_) = true := decide_eq_true b2
    go_wp2_with (fail)
    refine (known_any _).mono ?_
    rintro e wk ⟨rfl, hck⟩
    go_wp2_with (fail)
    go_ret
    exact ⟨rfl, HCC.out.trans hck (by simp)⟩
  have b1i : decide (by_ < -281474976710656) = false := decide_eq_false b1
  have b2i : decide (281474976710656 < by_) = false := decide_eq_false b2
  have hw : IntKind.i64.wrap (m + by_) = m + by_ := IntWalk.i64_in _ (by omega)
  go_upto_region 6 with (fail)
  have HX2 := Lib.hid (HB1.out.al (.cells #[.int .i64 (m + by_), .int .i64 ct] 25))
  have HT2 := Lib.hid (At.new w1 25 #[.int .i64 (m + by_), .int .i64 ct])
  have HC2 : Hid (Chg [] w (w1.alloc (.cells #[.int .i64 (m + by_), .int .i64 ct] 25))) := HC1.out.alloc _
  have HR2 := Lib.hid (HR1.out.alloc (.cells #[.int .i64 (m + by_), .int .i64 ct] 25))
  clear x0 x1 x2 x3 x4 x5
  generalize w1.alloc (.cells #[.int .i64 (m + by_), .int .i64 ct] 25) = wt at *
  generalize hgt : w1.heap.size = gt at *
  have x0 := HX2.out.cell 0
  have x1 := HX2.out.cell 1
  have x2 := HX2.out.cell 2
  have x3 := HX2.out.cell 3
  have x4 := HX2.out.cell 4
  have x5 := HX2.out.cell 5
  simp only [List.getElem?_toArray, List.getElem?_cons_zero, List.getElem?_cons_succ] at x0 x1 x2 x3 x4 x5
  go_cut [8] (fun s8 wx => s8 = .bool (wantB ⟨m, c, o, d, g, t⟩ by_ ct) ∧ wx = wt)
  case first =>
    cases g
    · by_cases z1 : 0 < by_
      · have z1i : decide (0 < by_) = true := by simp [z1]
        clear z1
        by_cases z4 : t = 0
        · have z4i : (t == 0) = true := by simp [z4]
          clear z4
          have hW : wantB ⟨m, c, o, d, false, t⟩ by_ ct = true := by simp [wantB, z1i, z4i]
          go_wp2_with (fail)
          go_meet
          exact ⟨by rw [hW], rfl⟩
        · have z4i : (t == 0) = false := by simp [z4]
          by_cases z5 : by_ < t
          · have z5i : decide (by_ < t) = true := by simp [z5]
            clear z5
            have hW : wantB ⟨m, c, o, d, false, t⟩ by_ ct = true := by simp [wantB, z1i, z4i, z5i]
            go_wp2_with (fail)
            go_meet
            exact ⟨by rw [hW], rfl⟩
          · have z5i : decide (by_ < t) = false := by simp [z5]
            have hW : wantB ⟨m, c, o, d, false, t⟩ by_ ct = false := by simp [wantB, z1i, z4i, z5i]
            go_wp2_with (fail)
            go_meet
            exact ⟨by rw [hW], rfl⟩
      · have z1i : decide (0 < by_) = false := by simp [z1]
        by_cases z2 : by_ = 0
        · have z2i : (by_ == 0) = true := by simp [z2]
          clear z2
          by_cases z3 : c ≤ ct
          · have z3i : decide (c ≤ ct) = true := by simp [z3]
            clear z3
            by_cases z4 : t = 0
            · have z4i : (t == 0) = true := by simp [z4]
              clear z4
              have hW : wantB ⟨m, c, o, d, false, t⟩ by_ ct = true := by simp [wantB, z1i, z2i, z3i, z4i]
              go_wp2_with (fail)
              go_meet
              exact ⟨by rw [hW], rfl⟩
            · have z4i : (t == 0) = false := by simp [z4]
              by_cases z5 : by_ < t
              · have z5i : decide (by_ < t) = true := by simp [z5]
                clear z5
                have hW : wantB ⟨m, c, o, d, false, t⟩ by_ ct = true := by simp [wantB, z1i, z2i, z3i, z4i, z5i]
                go_wp2_with (fail)
                go_meet
                exact ⟨by rw [hW], rfl⟩
              · have z5i : decide (by_ < t) = false := by simp [z5]
                have hW : wantB ⟨m, c, o, d, false, t⟩ by_ ct = false := by simp [wantB, z1i, z2i, z3i, z4i, z5i]
                go_wp2_with (fail)
                go_meet
                exact ⟨by rw [hW], rfl⟩
          · have z3i : decide (c ≤ ct) = false := by simp [z3]
            have hW : wantB ⟨m, c, o, d, false, t⟩ by_ ct = false := by simp [wantB, z1i, z2i, z3i]
            go_wp2_with (fail)
            go_meet
            exact ⟨by rw [hW], rfl⟩
        · have z2i : (by_ == 0) = false := by simp [z2]
          have hW : wantB ⟨m, c, o, d, false, t⟩ by_ ct = false := by simp [wantB, z1i, z2i]
          go_wp2_with (fail)
          go_meet
          exact ⟨by rw [hW], rfl⟩
    · have hW : wantB ⟨m, c, o, d, true, t⟩ by_ ct = false := by simp [wantB]
      go_wp2_with (fail)
      go_meet
      exact ⟨by rw [hW], rfl⟩
  case rest =>
    obtain ⟨rfl, rfl⟩ := hcut
    have HOF := Lib.hid (ofR_one (v := ⟨m, c, o, d, g, t⟩) HV.out)
    go_wp2_with (fail)
    refine (ofC_any _ _ 1 [⟨m, c, o, A, d, p, g, t⟩] ⟨Rd.new' rfl rfl rfl, fun m hm => ?_, fun m hm => ?_, fun m hm => ?_⟩ (by show (1 : Nat) ≤ 1000000; decide)).mono ?_
    · obtain rfl := List.mem_singleton.1 hm; exact HR2.out.alloc _
    · obtain rfl := List.mem_singleton.1 hm; show d.length ≤ 1099511627776; omega
    · obtain rfl := List.mem_singleton.1 hm; exact hnil
    rintro e w4 (⟨h0, gn, rfl, hA, hG, hl⟩ | ⟨h0, _⟩)
    rotate_left
    · exact absurd (congrArg Prod.fst HOF.out) h0
    have hof : (ofR [] (List.map VrV.v [⟨m, c, o, A, d, p, g, t⟩])).2 = [⟨m, c, o, d, g, t⟩] := congrArg Prod.snd HOF.out
    rw [hof] at hA hG
    have hk4 := hA.chg
    have HN := Lib.hid hA
    have HG := Lib.hid hG
    have HB4 := Lib.hid ((HX2.out.al (.cells #[.int .i64 m, .int .i64 c, .int .i64 o, .slice A d.length p, .bool g, .int .i64 t] 28)).keep hk4 (by simp))
    have HT4 := Lib.hid ((HT2.out.al (.cells #[.int .i64 m, .int .i64 c, .int .i64 o, .slice A d.length p, .bool g, .int .i64 t] 28)).keep hk4 (by simp))
    have HR4 := Lib.hid ((HR2.out.alloc (.cells #[.int .i64 m, .int .i64 c, .int .i64 o, .slice A d.length p, .bool g, .int .i64 t] 28)).keep0 hk4)
    have HC4 := Lib.hid ((HC2.out.alloc (.cells #[.int .i64 m, .int .i64 c, .int .i64 o, .slice A d.length p, .bool g, .int .i64 t] 28)).trans hk4 (by simp))
    clear x0 x1 x2 x3 x4 x5
    clear hG hA hl hof h0 hk4 HX2 HT2 HR2 HC2 HOF
    have y0 := HT4.out.cell 0
    have y1 := HT4.out.cell 1
    simp only [List.getElem?_toArray, List.getElem?_cons_zero, List.getElem?_cons_succ] at y0 y1
    obtain ⟨wb, HW⟩ : ∃ wb, Hid (wantB ⟨m, c, o, d, g, t⟩ by_ ct = wb) := ⟨_, Lib.hid rfl⟩
    have HS := Lib.hid (seen_want ⟨m, c, o, d, g, t⟩ by_ ct)
    have HGO := Lib.hid (get_one ⟨m, c, o, d, g, t⟩ ⟨m + by_, ct⟩)
    go_wp2_with (fail)
    refine (getC_all HN.out (by simp) HG.out.valid (m + by_) ct (by omega)).mono ?_
    rw [HGO.out.1, HS.out, HW.out]
    have HGD : Hid (wb = true → getD [⟨m, c, o, d, g, t⟩] ⟨m + by_, ct⟩ = d) := fun h => HGO.out.2 (by rw [HGO.out.1, HS.out, HW.out]; exact h)
    generalize getD [⟨m, c, o, d, g, t⟩] ⟨m + by_, ct⟩ = gd at *
    rintro e w5 ⟨A5, c5, rfl, ho5, hc5⟩
    have HB5 := Lib.hid (HB4.out.keep hc5 (by simp))
    have HT5 := Lib.hid (HT4.out.keep hc5 (by simp))
    have HR5 := Lib.hid (HR4.out.keep0 hc5)
    have HC5 := Lib.hid (HC4.out.trans hc5 (by simp))
    have HO5 := Lib.hid (Rd.of_own ho5)
    clear HB4 HT4 HR4 HC4 y0 y1 hc5 ho5 HGO
    have x0 := HB5.out.cell 0
    have x1 := HB5.out.cell 1
    have x2 := HB5.out.cell 2
    have x3 := HB5.out.cell 3
    have x4 := HB5.out.cell 4
    have x5 := HB5.out.cell 5
    simp only [List.getElem?_toArray, List.getElem?_cons_zero, List.getElem?_cons_succ] at x0 x1 x2 x3 x4 x5
    have y0 := HT5.out.cell 0
    have y1 := HT5.out.cell 1
    simp only [List.getElem?_toArray, List.getElem?_cons_zero, List.getElem?_cons_succ] at y0 y1
    go_wp2_with (fail)
    refine (chSeen_any w5 m c o A d.length p g t (m + by_) ct hm.1 hm.2 (by omega) d).mono ?_
    rw [HS.out, HW.out]
    rintro e w6 ⟨rfl, hc6⟩
    have HC6 := Lib.hid (HC5.out.trans hc6 (by simp))
    have HB6 := Lib.hid (HB5.out.keep hc6 (by simp))
    have HR6 := Lib.hid (HR5.out.keep0 hc6)
    have HO6 := Lib.hid (HO5.out.keep0 hc6)
    clear x0 x1 x2 x3 x4 x5 y0 y1
    clear HB5 HT5 HR5 HC5 HO5 hc6
    have x3 := HB6.out.cell 3
    simp only [List.getElem?_toArray, List.getElem?_cons_zero, List.getElem?_cons_succ] at x3
    cases wb
    · go_wp2_with (fail)
      refine (known_any _).mono ?_
      rintro e wk ⟨rfl, hck⟩
      go_wp2_with (fail)
      go_ret
      exact ⟨rfl, HC6.out.trans hck (by simp)⟩
    · have hgd : gd = d := HGD.out rfl
      subst hgd
      have HSM := Lib.hid (same_any w6 A5 A gd.length gd.length c5 p gd gd rfl rfl HO6.out HR6.out (by omega))
      have hdd : decide (gd = gd) = true := decide_eq_true rfl
      go_wp2_with (fail)
      refine HSM.out.mono ?_
      rw [hdd]
      rintro e w7 ⟨rfl, hc7⟩
      have HC7 := Lib.hid (HC6.out.trans hc7 (by simp))
      go_wp2_with (fail)
      refine (known_any _).mono ?_
      rintro e wk ⟨rfl, hck⟩
      go_wp2_with (fail)
      go_ret
      exact ⟨rfl, HC7.out.trans hck (by simp)⟩
end Go.Proofs.Ytmliclfepnebfaa
