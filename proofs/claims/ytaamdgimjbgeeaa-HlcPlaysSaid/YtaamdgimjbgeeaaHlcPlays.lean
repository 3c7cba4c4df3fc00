/-
  HlcPlays: of every script each answer, the last stamp, the bound.
-/
import Derived.Test.YtaamdgimjbgeeaaHlcPl
import Derived.Deep.DeepCutAuto
import Derived.Deep.CutBlock
import Derived.Deep.RegionWith
namespace Go.Proofs.Ytaamdgimjbgeeaa
open Go.RowKit
set_option linter.unusedVariables false

/-- Both Clocks, as they stand in a world. -/
def Two (w : World) (B1 B2 : Nat) (wx : World) : Prop := ∃ (lm lc b : Int), ClkI ⟨lm, lc⟩ b ∧ At wx B1 75 (clkC ⟨lm, lc⟩ b) ∧ At wx B2 65 (clkC ⟨lm, lc⟩ b) ∧ Chg [] w wx

set_option maxRecDepth 100000 in
set_option maxHeartbeats 6400000 in
theorem hlcPlays_walk (w : World) (b0 : Int) (_ : (Lit.int .i64 b0).wf = true) (A : Option Addr) (n c : Nat) (hr : RdI w 6 A n) (_ : n ≤ c) (hcm : c ≤ maxLen) :
    Calls Try.prog 9 #[.int .i64 b0, .slice A n c] w fun e w' => e = .returned (.bool true) ∧ Chg [] w w' := by
  have hnm : n ≤ 9223372036854775807 := by unfold maxLen at hcm; omega
  by_cases hb : b0 < 0 ∨ 281474976710655 < b0
  · go_enter Try.func9, Try.ntmps9
    go_wp2_with (first
      | (go_at_call 17; refine (new_no _ _ hb).mono ?_; rintro e w' ⟨rfl, rfl⟩)
      | (go_at_call 29; refine (refNew_no _ _ hb).mono ?_; rintro e w' ⟨rfl, rfl⟩)
      | (go_at_call 16; refine (known_any _).mono ?_; rintro e w6 ⟨rfl, hch6⟩))
    go_ret
    exact ⟨rfl, hch6⟩
  · have h0 : 0 ≤ b0 := by omega
    have h1 : b0 ≤ 281474976710655 := by omega
    clear hb
    have hA1 : At ((w.alloc (.cells #[.int .i64 b0, .int .i64 0, .int .i64 b0] 75)).alloc (.cells #[.int .i64 b0, .int .i64 0, .int .i64 b0] 65)) w.heap.size 75 (clkC ⟨b0, 0⟩ b0) := (At.new _ _ _).keep ((Chg.refl [] _).alloc _) (by simp)
    have hR1 : At ((w.alloc (.cells #[.int .i64 b0, .int .i64 0, .int .i64 b0] 75)).alloc (.cells #[.int .i64 b0, .int .i64 0, .int .i64 b0] 65)) (w.heap.size + 1) 65 (clkC ⟨b0, 0⟩ b0) := by
      simpa [clkC] using At.new (w.alloc (.cells #[.int .i64 b0, .int .i64 0, .int .i64 b0] 75)) 65 #[.int .i64 b0, .int .i64 0, .int .i64 b0]
    have HT : Two w w.heap.size (w.heap.size + 1) ((w.alloc (.cells #[.int .i64 b0, .int .i64 0, .int .i64 b0] 75)).alloc (.cells #[.int .i64 b0, .int .i64 0, .int .i64 b0] 65)) := ⟨b0, 0, b0, ClkI.mk' (by omega), hA1, hR1, ((Chg.refl _ _).alloc _).alloc _⟩
    clear hA1 hR1
    go_enter Try.func9, Try.ntmps9
    go_wp2_with (first
      | (go_at_call 17; refine (new_yes _ _ h0 h1).mono ?_; rintro e w' ⟨rfl, rfl⟩)
      | (go_at_call 29; refine (refNew_yes _ _ h0 h1).mono ?_; rintro e w' ⟨rfl, rfl⟩))
    go_loopg [9] n (fun g i wr => ∃ k : Nat, g = n - k ∧ k ≤ n ∧ i = .int .i64 k ∧ Two w w.heap.size (w.heap.size + 1) wr)
    case atStart => exact ⟨0, rfl, Nat.zero_le _, rfl, by simpa using HT⟩
    case round =>
      clear HT
      obtain ⟨k, hg, hkl, rfl, hT⟩ := hrel
      have Hg := Lib.hid hg
      clear hg
      by_cases hlt : k < n ∧ k < 200
      · obtain ⟨hlt, h200⟩ := hlt
        obtain ⟨lm, lc, b, hI, hA, hR, hch⟩ := hT
        obtain ⟨ad, kd, nn, sm, sc, om, oc, rfl, had, c0, c1, c2, c3, c4, c5⟩ := (hr.keep0 hch).get6 hlt
        have hB1 := hA.lt
        have hB2 := hR.lt
        have hs := At.new wr 59 #[.int .i64 kd, .int .i64 nn, .int .i64 sm, .int .i64 sc, .int .i64 om, .int .i64 oc]
        go_upto_block 2 with (fail)
        go_cut [11] (fun s11 wx => s11 = .bool true ∧ Two w w.heap.size (w.heap.size + 1) wx)
        case first =>
          clear c0 c1 c2 c3 c4 c5
          have hAs := hA.keep ((Chg.refl [] _).alloc (.cells #[.int .i64 kd, .int .i64 nn, .int .i64 sm, .int .i64 sc, .int .i64 om, .int .i64 oc] 59)) (by simp)
          have hRs := hR.keep ((Chg.refl [] _).alloc (.cells #[.int .i64 kd, .int .i64 nn, .int .i64 sm, .int .i64 sc, .int .i64 om, .int .i64 oc] 59)) (by simp)
          by_cases z1 : kd = 1
          · subst z1
            obtain ⟨⟨⟨rm, rc⟩, re⟩, HF⟩ : ∃ r, Hid (sendF ⟨lm, lc⟩ b nn = r) := ⟨_, rfl⟩
            obtain ⟨⟨l2m, l2c⟩, HL⟩ : ∃ l2, Hid (sendL ⟨lm, lc⟩ b nn = l2) := ⟨_, rfl⟩
            have hI2 : ClkI ⟨l2m, l2c⟩ b := by rw [← HL.out]; exact sendL_ok hI
            go_wp2_with (fail)
            refine (send_to _ w.heap.size ⟨lm, lc⟩ b nn hAs hI HF.out HL.out).mono ?_
            rintro e w3 ⟨rfl, hA3, hch3⟩
            have hs3 := hs.keep hch3 (by simp; omega)
            have d1 := hs3.cell 1
            have d2 := hs3.lt
            have hR3 := hRs.keep hch3 (by simp)
            have hr3 := At.new w3 24 #[.int .i64 rm, .int .i64 rc]
            have hB3 := hA3.lt
            have hR3' := hR3.lt
            go_wp2_with (fail)
            refine (refSend_to _ (w.heap.size + 1) ⟨lm, lc⟩ b nn (hR3.keep ((Chg.refl [] _).alloc _) (by simp)) hI HF.out HL.out).mono ?_
            rintro e w4 ⟨rfl, hR4, hch4⟩
            have hr4 := hr3.keep hch4 (by simp; omega)
            obtain ⟨p0, p1, p2⟩ := hr4.st
            have hA4 := (hA3.keep ((Chg.refl [] _).alloc _) (by simp)).keep hch4 (by simp)
            go_wp2_with (fail)
            go_meet
            exact ⟨rfl, l2m, l2c, b, hI2, hA4.keep ((Chg.refl [] _).alloc _) (by simp), hR4.keep ((Chg.refl [] _).alloc _) (by simp), ((((hch.alloc _).trans hch3 (by simp)).alloc _).trans hch4 (by simp)).alloc _⟩
          · by_cases z2 : kd = 2
            · subst z2
              obtain ⟨r, HF⟩ : ∃ r, Hid (hearF nn [⟨sm, sc⟩] = r) := ⟨_, rfl⟩
              obtain ⟨⟨l2m, l2c⟩, HL⟩ : ∃ l2, Hid (hearL ⟨lm, lc⟩ nn [⟨sm, sc⟩] = l2) := ⟨_, rfl⟩
              have hI2 : ClkI ⟨l2m, l2c⟩ b := by rw [← HL.out]; exact hearL_ok hI
              have d2 := hs.lt
              have d1 := hs.cell 1
              go_wp2_with (fail)
              go_region_held3 (fun w' => w'.cell? ⟨wr.heap.size, 1, none⟩ = some (.int .i64 nn) ∧ w'.cell? ⟨wr.heap.size, 2, none⟩ = some (.int .i64 sm) ∧ w'.cell? ⟨wr.heap.size, 3, none⟩ = some (.int .i64 sc)) (first | go_keep | exact ⟨x1, x2, x3⟩)
                (first
                  | (go_at_call 19; refine (hear_to _ w.heap.size ⟨lm, lc⟩ b nn _ _ _ [⟨sm, sc⟩] ?_ rfl ?_ ?_ (by simp) (by simp) HF.out HL.out).mono ?_
                     · first | exact hAs.keep (((Chg.refl [] _).alloc (.cells #[.int .i64 sm, .int .i64 sc] 24)).drewN 1) (by simp) | exact hAs.keep ((((Chg.refl [] _).alloc (.cells #[.int .i64 sm, .int .i64 sc] 24)).alloc (.cells #[.int .i64 sm, .int .i64 sc] 24)).drewN 1) (by simp)
                     · first | (refine (Rd.new' ?_ rfl rfl).drewN 1; simp; done) | (refine ((Rd.new' ?_ rfl rfl).alloc _).drewN 1; simp; done)
                     · exact Away.at (by simp; omega)
                     rintro e w3 ⟨rfl, hA3, hch3⟩
                     have hchA : Chg [w.heap.size] (wr.alloc (.cells #[.int .i64 2, .int .i64 nn, .int .i64 sm, .int .i64 sc, .int .i64 om, .int .i64 oc] 59)) w3 := (by first | exact (((Chg.refl _ _).alloc (.cells #[.int .i64 sm, .int .i64 sc] 24)).drewN 1).trans hch3 (by simp) | exact ((((Chg.refl _ _).alloc (.cells #[.int .i64 sm, .int .i64 sc] 24)).alloc (.cells #[.int .i64 sm, .int .i64 sc] 24)).drewN 1).trans hch3 (by simp))
                     have hR3 := hRs.keep hchA (by simp)
                     have hs3 := hs.keep hchA (by simp; omega)
                     have hv3 := hR3.lt
                     have hw3 := hs3.lt
                     have x1 := hs3.cell 1; have x2 := hs3.cell 2; have x3 := hs3.cell 3
                     first | (have hq0 := ((show At ((wr.alloc (.cells #[.int .i64 2, .int .i64 nn, .int .i64 sm, .int .i64 sc, .int .i64 om, .int .i64 oc] 59)).alloc (.cells #[.int .i64 sm, .int .i64 sc] 24)) (wr.heap.size + 1) 24 #[.int .i64 sm, .int .i64 sc] from (by simpa using At.new (wr.alloc (.cells #[.int .i64 2, .int .i64 nn, .int .i64 sm, .int .i64 sc, .int .i64 om, .int .i64 oc] 59)) 24 #[.int .i64 sm, .int .i64 sc])).keep (((Chg.refl [] _).alloc (.cells #[.int .i64 sm, .int .i64 sc] 24)).drewN 1) (by simp)).keep hch3 (by simp; omega)
                              have hq1 := ((show At (((wr.alloc (.cells #[.int .i64 2, .int .i64 nn, .int .i64 sm, .int .i64 sc, .int .i64 om, .int .i64 oc] 59)).alloc (.cells #[.int .i64 sm, .int .i64 sc] 24)).alloc (.cells #[.int .i64 sm, .int .i64 sc] 24)) (wr.heap.size + 1 + 1) 24 #[.int .i64 sm, .int .i64 sc] from (by simpa using At.new ((wr.alloc (.cells #[.int .i64 2, .int .i64 nn, .int .i64 sm, .int .i64 sc, .int .i64 om, .int .i64 oc] 59)).alloc (.cells #[.int .i64 sm, .int .i64 sc] 24)) 24 #[.int .i64 sm, .int .i64 sc])).keep ((Chg.refl [] _).drewN 1) (by simp)).keep hch3 (by simp; omega)) | skip)
                  | (go_at_call 31; refine (refHear_to _ (w.heap.size + 1) ⟨lm, lc⟩ b nn _ _ _ [⟨sm, sc⟩] ?_ rfl ?_ ?_ (by simp) HF.out HL.out).mono ?_
                     · first | exact hR3 | exact hR3.keep ((Chg.refl [] _).alloc (.cells #[.int .i64 sm, .int .i64 sc] 24)) (by simp)
                     · first | exact Rd.of_at (l := cS [⟨sm, sc⟩]) hq0 rfl | exact Rd.of_at (l := cS [⟨sm, sc⟩]) hq1 rfl | (refine Rd.new' ?_ rfl rfl; simp; done)
                     · exact Away.at (by simp; omega)
                     rintro e w4 ⟨rfl, hR4, hch4⟩
                     have hA4 : At w4 w.heap.size 75 (clkC ⟨l2m, l2c⟩ b) := (by first | exact hA3.keep hch4 (by simp) | exact (hA3.keep ((Chg.refl [] _).alloc (.cells #[.int .i64 sm, .int .i64 sc] 24)) (by simp)).keep hch4 (by simp))
                     have hchB : Chg [] w w4 := (by first | exact ((hch.alloc (.cells #[.int .i64 2, .int .i64 nn, .int .i64 sm, .int .i64 sc, .int .i64 om, .int .i64 oc] 59)).trans hchA (by simp)).trans hch4 (by simp) | exact (((hch.alloc (.cells #[.int .i64 2, .int .i64 nn, .int .i64 sm, .int .i64 sc, .int .i64 om, .int .i64 oc] 59)).trans hchA (by simp)).alloc (.cells #[.int .i64 sm, .int .i64 sc] 24)).trans hch4 (by simp))
                     have hs4 := (by first | exact hs3.keep hch4 (by simp; omega) | exact (hs3.keep ((Chg.refl [] _).alloc (.cells #[.int .i64 sm, .int .i64 sc] 24)) (by simp)).keep hch4 (by simp; omega) : At w4 wr.heap.size 59 #[.int .i64 2, .int .i64 nn, .int .i64 sm, .int .i64 sc, .int .i64 om, .int .i64 oc])
                     have x1 := hs4.cell 1; have x2 := hs4.cell 2; have x3 := hs4.cell 3))
              all_goals
                go_wp2_with (fail)
                go_meet
                exact ⟨rfl, l2m, l2c, b, hI2, hA4, hR4, hchB⟩
            · by_cases z3 : kd = 3
              · subst z3
                obtain ⟨r, HF⟩ : ∃ r, Hid (raiseF b nn = r) := ⟨_, rfl⟩
                obtain ⟨b2, HL⟩ : ∃ b2, Hid (raiseB b nn = b2) := ⟨_, rfl⟩
                have hI2 : ClkI ⟨lm, lc⟩ b2 := by rw [← HL.out]; exact raiseB_ok hI
                have d2 := hs.lt
                have d1 := hs.cell 1
                go_wp2_with (fail)
                go_region_held3 (fun w' => w'.cell? ⟨wr.heap.size, 1, none⟩ = some (.int .i64 nn)) (first | go_keep | exact x1)
                  (first
                    | (go_at_call 18; refine (raise_to _ w.heap.size ⟨lm, lc⟩ b nn (hAs.drewN 1) HF.out HL.out).mono ?_; rintro e w3 ⟨rfl, hA3, hch3⟩; have hR3 := (hRs.drewN 1).keep hch3 (by simp); have hs3 := (hs.drewN 1).keep hch3 (by simp; omega); have x1 := hs3.cell 1; have y1 := hs3.lt)
                    | (go_at_call 32; refine (refRaise_to _ (w.heap.size + 1) ⟨lm, lc⟩ b nn hR3 HF.out HL.out).mono ?_; rintro e w4 ⟨rfl, hR4, hch4⟩; have hA4 := hA3.keep hch4 (by simp); have hs4 := hs3.keep hch4 (by simp; omega); have x1 := hs4.cell 1))
                go_wp2_with (fail)
                go_meet
                exact ⟨rfl, lm, lc, b2, hI2, hA4, hR4, (((hch.alloc _).drewN 1).trans hch3 (by simp)).trans hch4 (by simp)⟩
              · by_cases z4 : kd = 4
                · subst z4
                  obtain ⟨r, HF⟩ : ∃ r, Hid (hearF nn [⟨sm, sc⟩, ⟨om, oc⟩] = r) := ⟨_, rfl⟩
                  obtain ⟨⟨l2m, l2c⟩, HL⟩ : ∃ l2, Hid (hearL ⟨lm, lc⟩ nn [⟨sm, sc⟩, ⟨om, oc⟩] = l2) := ⟨_, rfl⟩
                  have hI2 : ClkI ⟨l2m, l2c⟩ b := by rw [← HL.out]; exact hearL_ok hI
                  have d2 := hs.lt
                  have d1 := hs.cell 1
                  go_wp2_with (fail)
                  go_region_held3 (fun w' => w'.cell? ⟨wr.heap.size, 1, none⟩ = some (.int .i64 nn) ∧ w'.cell? ⟨wr.heap.size, 2, none⟩ = some (.int .i64 sm) ∧ w'.cell? ⟨wr.heap.size, 3, none⟩ = some (.int .i64 sc) ∧ w'.cell? ⟨wr.heap.size, 4, none⟩ = some (.int .i64 om) ∧ w'.cell? ⟨wr.heap.size, 5, none⟩ = some (.int .i64 oc)) (first | go_keep | exact ⟨x1, x2, x3, x4, x5⟩)
                    (first
                      | (go_at_call 19; refine (hear_to _ w.heap.size ⟨lm, lc⟩ b nn _ _ _ [⟨sm, sc⟩, ⟨om, oc⟩] ?_ rfl ?_ ?_ (by simp) (by simp) HF.out HL.out).mono ?_
                         · first | exact hAs.keep (((Chg.refl [] _).alloc (.cells #[.int .i64 sm, .int .i64 sc, .int .i64 om, .int .i64 oc] 24)).drewN 1) (by simp) | exact hAs.keep ((((Chg.refl [] _).alloc (.cells #[.int .i64 sm, .int .i64 sc, .int .i64 om, .int .i64 oc] 24)).alloc (.cells #[.int .i64 sm, .int .i64 sc, .int .i64 om, .int .i64 oc] 24)).drewN 1) (by simp)
                         · first | (refine (Rd.new' ?_ rfl rfl).drewN 1; simp; done) | (refine ((Rd.new' ?_ rfl rfl).alloc _).drewN 1; simp; done)
                         · exact Away.at (by simp; omega)
                         rintro e w3 ⟨rfl, hA3, hch3⟩
                         have hchA : Chg [w.heap.size] (wr.alloc (.cells #[.int .i64 4, .int .i64 nn, .int .i64 sm, .int .i64 sc, .int .i64 om, .int .i64 oc] 59)) w3 := (by first | exact (((Chg.refl _ _).alloc (.cells #[.int .i64 sm, .int .i64 sc, .int .i64 om, .int .i64 oc] 24)).drewN 1).trans hch3 (by simp) | exact ((((Chg.refl _ _).alloc (.cells #[.int .i64 sm, .int .i64 sc, .int .i64 om, .int .i64 oc] 24)).alloc (.cells #[.int .i64 sm, .int .i64 sc, .int .i64 om, .int .i64 oc] 24)).drewN 1).trans hch3 (by simp))
                         have hR3 := hRs.keep hchA (by simp)
                         have hs3 := hs.keep hchA (by simp; omega)
                         have hv3 := hR3.lt
                         have hw3 := hs3.lt
                         have x1 := hs3.cell 1; have x2 := hs3.cell 2; have x3 := hs3.cell 3; have x4 := hs3.cell 4; have x5 := hs3.cell 5
                         first | (have hq0 := ((show At ((wr.alloc (.cells #[.int .i64 4, .int .i64 nn, .int .i64 sm, .int .i64 sc, .int .i64 om, .int .i64 oc] 59)).alloc (.cells #[.int .i64 sm, .int .i64 sc, .int .i64 om, .int .i64 oc] 24)) (wr.heap.size + 1) 24 #[.int .i64 sm, .int .i64 sc, .int .i64 om, .int .i64 oc] from (by simpa using At.new (wr.alloc (.cells #[.int .i64 4, .int .i64 nn, .int .i64 sm, .int .i64 sc, .int .i64 om, .int .i64 oc] 59)) 24 #[.int .i64 sm, .int .i64 sc, .int .i64 om, .int .i64 oc])).keep (((Chg.refl [] _).alloc (.cells #[.int .i64 sm, .int .i64 sc, .int .i64 om, .int .i64 oc] 24)).drewN 1) (by simp)).keep hch3 (by simp; omega)
                                  have hq1 := ((show At (((wr.alloc (.cells #[.int .i64 4, .int .i64 nn, .int .i64 sm, .int .i64 sc, .int .i64 om, .int .i64 oc] 59)).alloc (.cells #[.int .i64 sm, .int .i64 sc, .int .i64 om, .int .i64 oc] 24)).alloc (.cells #[.int .i64 sm, .int .i64 sc, .int .i64 om, .int .i64 oc] 24)) (wr.heap.size + 1 + 1) 24 #[.int .i64 sm, .int .i64 sc, .int .i64 om, .int .i64 oc] from (by simpa using At.new ((wr.alloc (.cells #[.int .i64 4, .int .i64 nn, .int .i64 sm, .int .i64 sc, .int .i64 om, .int .i64 oc] 59)).alloc (.cells #[.int .i64 sm, .int .i64 sc, .int .i64 om, .int .i64 oc] 24)) 24 #[.int .i64 sm, .int .i64 sc, .int .i64 om, .int .i64 oc])).keep ((Chg.refl [] _).drewN 1) (by simp)).keep hch3 (by simp; omega)) | skip)
                      | (go_at_call 31; refine (refHear_to _ (w.heap.size + 1) ⟨lm, lc⟩ b nn _ _ _ [⟨sm, sc⟩, ⟨om, oc⟩] ?_ rfl ?_ ?_ (by simp) HF.out HL.out).mono ?_
                         · first | exact hR3 | exact hR3.keep ((Chg.refl [] _).alloc (.cells #[.int .i64 sm, .int .i64 sc, .int .i64 om, .int .i64 oc] 24)) (by simp)
                         · first | exact Rd.of_at (l := cS [⟨sm, sc⟩, ⟨om, oc⟩]) hq0 rfl | exact Rd.of_at (l := cS [⟨sm, sc⟩, ⟨om, oc⟩]) hq1 rfl | (refine Rd.new' ?_ rfl rfl; simp; done)
                         · exact Away.at (by simp; omega)
                         rintro e w4 ⟨rfl, hR4, hch4⟩
                         have hA4 : At w4 w.heap.size 75 (clkC ⟨l2m, l2c⟩ b) := (by first | exact hA3.keep hch4 (by simp) | exact (hA3.keep ((Chg.refl [] _).alloc (.cells #[.int .i64 sm, .int .i64 sc, .int .i64 om, .int .i64 oc] 24)) (by simp)).keep hch4 (by simp))
                         have hchB : Chg [] w w4 := (by first | exact ((hch.alloc (.cells #[.int .i64 4, .int .i64 nn, .int .i64 sm, .int .i64 sc, .int .i64 om, .int .i64 oc] 59)).trans hchA (by simp)).trans hch4 (by simp) | exact (((hch.alloc (.cells #[.int .i64 4, .int .i64 nn, .int .i64 sm, .int .i64 sc, .int .i64 om, .int .i64 oc] 59)).trans hchA (by simp)).alloc (.cells #[.int .i64 sm, .int .i64 sc, .int .i64 om, .int .i64 oc] 24)).trans hch4 (by simp))
                         have hs4 := (by first | exact hs3.keep hch4 (by simp; omega) | exact (hs3.keep ((Chg.refl [] _).alloc (.cells #[.int .i64 sm, .int .i64 sc, .int .i64 om, .int .i64 oc] 24)) (by simp)).keep hch4 (by simp; omega) : At w4 wr.heap.size 59 #[.int .i64 4, .int .i64 nn, .int .i64 sm, .int .i64 sc, .int .i64 om, .int .i64 oc])
                         have x1 := hs4.cell 1; have x2 := hs4.cell 2; have x3 := hs4.cell 3; have x4 := hs4.cell 4; have x5 := hs4.cell 5))
                  all_goals
                    go_wp2_with (fail)
                    go_meet
                    exact ⟨rfl, l2m, l2c, b, hI2, hA4, hR4, hchB⟩
                · have y1 : (kd == 1) = false := beq_eq_false_iff_ne.2 z1
                  have y2 : (kd == 2) = false := beq_eq_false_iff_ne.2 z2
                  have y3 : (kd == 3) = false := beq_eq_false_iff_ne.2 z3
                  have y4 : (kd == 4) = false := beq_eq_false_iff_ne.2 z4
                  clear z1 z2 z3 z4
                  go_wp2_with (fail)
                  go_meet
                  exact ⟨rfl, lm, lc, b, hI, hAs, hRs, hch.alloc _⟩
        case rest =>
          clear hI hA hR hch hs c0 c1 c2 c3 c4 c5
          obtain ⟨rfl, lm, lc, b, hI, hA, hR, hch⟩ := hcut
          have r0 := hR.cell 0
          have r1 := hR.cell 1
          have r2 := hR.cell 2
          simp only [clkC] at r0 r1 r2
          go_wp2_with (fail)
          go_region_held3 (fun w' => w'.cell? ⟨w.heap.size + 1, 0, none⟩ = some (.int .i64 lm) ∧ w'.cell? ⟨w.heap.size + 1, 1, none⟩ = some (.int .i64 lc) ∧ w'.cell? ⟨w.heap.size + 1, 2, none⟩ = some (.int .i64 b)) (go_keep)
            (first
              | (go_at_call 25; refine (last_any _ w.heap.size ⟨lm, lc⟩ b (hA.drewN 1)).mono ?_; rintro e w5 ⟨rfl, hch5⟩; have hA5 := (hA.drewN 1).keep hch5 (by simp); have hR5 := (hR.drewN 1).keep hch5 (by simp); have v0 := hR5.cell 0; have v1 := hR5.cell 1; have v2 := hR5.cell 2; simp only [clkC] at v0 v1 v2)
              | (go_at_call 33; refine (bound_any _ w.heap.size ⟨lm, lc⟩ b hA5).mono ?_; rintro e w' ⟨rfl, rfl⟩))
          go_wp2_with (fail)
          go_roundg (n - (k + 1))
          case rel => exact ⟨k + 1, rfl, by omega, by go_num, lm, lc, b, hI, hA5, hR5, (hch.drewN 1).trans hch5 (by simp)⟩
          case measure => have := Hg.out; omega
      · obtain ⟨lm, lc, b, hI, hA, hR, hch⟩ := hT
        by_cases hk2 : k < n
        · have h200 : ¬ ((k : Int) < 200) := by omega
          clear hlt
          go_wp2_with (go_at_call 16; refine (known_any _).mono ?_; rintro e w6 ⟨rfl, hch6⟩)
          go_ret
          exact ⟨rfl, hch.trans hch6 (by simp)⟩
        · clear hlt
          go_wp2_with (go_at_call 16; refine (known_any _).mono ?_; rintro e w6 ⟨rfl, hch6⟩)
          go_ret
          exact ⟨rfl, hch.trans hch6 (by simp)⟩
end Go.Proofs.Ytaamdgimjbgeeaa
