/-
  HlcRises: each stamp that is given is above all that were given or heard ahead of it, below the bound, and not ahead of the time.
-/
import Derived.Test.YtaamdgimjbgeeaaHlcPl
import Derived.Test.YtaamdgimjbgeeaaHlcLives
import Derived.Deep.RegionWith
namespace Go.Proofs.Ytaamdgimjbgeeaa
open Go.RowKit
set_option linter.unusedVariables false
attribute [local go_sem ↓] Go.wp_at_zero Go.wp_at_succ

theorem sendF_inv {l : St} {b n : Int} (h : (sendF l b n).2 = 0) : 0 ≤ n ∧ n ≤ 281474976710655 ∧ sendF l b n = (nextS l n, 0) ∧ (nextS l n).c ≤ 65535 ∧ (nextS l n).m < b := by
  revert h
  unfold sendF
  by_cases h1 : n < 0 ∨ 281474976710655 < n
  · rw [if_pos h1]; intro h; simp at h
  · rw [if_neg h1]
    by_cases h2 : 65535 < (nextS l n).c
    · rw [if_pos h2]; intro h; simp at h
    · rw [if_neg h2]
      by_cases h3 : b ≤ (nextS l n).m
      · rw [if_pos h3]; intro h; simp at h
      · rw [if_neg h3]
        intro _
        exact ⟨by omega, by omega, rfl, by omega, by omega⟩
theorem maxS_two (a b : St) : maxS [a, b] = maxS [b, a] := maxS_uniq (fun s => by simp [or_comm])

set_option maxRecDepth 100000 in
set_option maxHeartbeats 6400000 in
theorem hlcRises_walk (w : World) (A : Option Addr) (n c : Nat) (hr : RdI w 6 A n) (_ : n ≤ c) (hcm : c ≤ maxLen) :
    Calls Try.prog 10 #[.slice A n c] w fun e w' => e = .returned (.bool true) ∧ Chg [] w w' := by
  have hnm : n ≤ 9223372036854775807 := by unfold maxLen at hcm; omega
  go_enter Try.func10, Try.ntmps10
  go_wp2_with (fail)
  refine (new_yes 0 _ (by omega) (by omega)).mono ?_
  rintro e w1 ⟨rfl, rfl⟩
  go_wp2_with (fail)
  go_loopg [6] n (fun g i wr => ∃ (k : Nat) (lm lc b : Int), g = n - k ∧ k ≤ n ∧ i = .int .i64 k ∧ ClkI ⟨lm, lc⟩ b ∧ At wr w.heap.size 75 (clkC ⟨lm, lc⟩ b) ∧ At wr (w.heap.size + 1) 24 #[.int .i64 lm, .int .i64 lc] ∧ Chg [] w wr)
  case atStart => exact ⟨0, 0, 0, 0, rfl, Nat.zero_le _, rfl, ClkI.mk' (by omega), (At.new _ _ _).keep ((Chg.refl [] _).alloc _) (by simp), (by simpa using At.new (w.alloc (.cells #[.int .i64 0, .int .i64 0, .int .i64 0] 75)) 24 #[.int .i64 0, .int .i64 0]), ((Chg.refl _ _).alloc _).alloc _⟩
  case round =>
    obtain ⟨k, lm, lc, b, hg, hkl, rfl, hI, hA, hT, hch⟩ := hrel
    have Hg := Lib.hid hg
    clear hg
    have hTl := hT.lt
    by_cases hlt : k < n ∧ k < 200
    · obtain ⟨hlt, h200⟩ := hlt
      obtain ⟨ad, kd, nn, sm, sc, om, oc, rfl, had, c0, c1, c2, c3, c4, c5⟩ := (hr.keep0 hch).get6 hlt
      have hs := At.new wr 59 #[.int .i64 kd, .int .i64 nn, .int .i64 sm, .int .i64 sc, .int .i64 om, .int .i64 oc]
      have hAs := hA.keep ((Chg.refl [] _).alloc (.cells #[.int .i64 kd, .int .i64 nn, .int .i64 sm, .int .i64 sc, .int .i64 om, .int .i64 oc] 59)) (by simp)
      have hTs := hT.keep ((Chg.refl [] _).alloc (.cells #[.int .i64 kd, .int .i64 nn, .int .i64 sm, .int .i64 sc, .int .i64 om, .int .i64 oc] 59)) (by simp)
      by_cases z3 : kd = 3
      · subst z3
        go_wp2_with (fail)
        refine (raise_any _ w.heap.size ⟨lm, lc⟩ b nn hAs).mono ?_
        rintro e w3 ⟨rfl, hA3, hch3⟩
        go_wp2_with (fail)
        go_roundg (n - (k + 1))
        case rel => exact ⟨k + 1, lm, lc, raiseB b nn, rfl, by omega, by go_num, raiseB_ok hI, hA3, hTs.keep hch3 (by simp), (hch.alloc _).trans hch3 (by simp)⟩
        case measure => have := Hg.out; omega
      · by_cases z24 : kd = 2 ∨ kd = 4
        · obtain ⟨r, HF⟩ : ∃ r, Hid (hearF nn [⟨sm, sc⟩] = r) := ⟨_, rfl⟩
          obtain ⟨⟨l2m, l2c⟩, HL⟩ : ∃ l2, Hid (hearL ⟨lm, lc⟩ nn [⟨sm, sc⟩] = l2) := ⟨_, rfl⟩
          have hI2 : ClkI ⟨l2m, l2c⟩ b := by rw [← HL.out]; exact hearL_ok hI
          have HI2 := Lib.hid hI2
          clear hI2
          rcases z24 with rfl | rfl
          all_goals
            go_wp2_with (fail)
            refine (hear_to _ w.heap.size ⟨lm, lc⟩ b nn (some ⟨wr.heap.size + 1, 0, none⟩) 1 1 [⟨sm, sc⟩] (hAs.keep ((Chg.refl [] _).alloc _) (by simp)) rfl (Rd.new' (by simp) rfl rfl) (Away.at (by simp; omega)) (by simp) (by simp) HF.out HL.out).mono ?_
            rintro e w3 ⟨rfl, hA3, hch3⟩
            have hT3 := (hTs.keep ((Chg.refl [] _).alloc (.cells #[.int .i64 sm, .int .i64 sc] 24)) (by simp)).keep hch3 (by simp)
            have hs3 := (hs.keep ((Chg.refl [] _).alloc (.cells #[.int .i64 sm, .int .i64 sc] 24)) (by simp)).keep hch3 (by simp; omega)
            have hch4 : Chg [] w w3 := ((hch.alloc _).alloc _).trans hch3 (by simp)
            have x2 := hs3.cell 2
            have x3 := hs3.cell 3
            have x4 := hs3.lt
            have q0 := hT3.cell 0
            have q1 := hT3.cell 1
            have q4 := hT3.lt
            by_cases hr0 : r = 0
            · subst hr0
              have HE : Hid (maxS [⟨lm, lc⟩, ⟨sm, sc⟩] = ⟨l2m, l2c⟩) := by unfold Hid; rw [maxS_two, ← HL.out]; unfold hearL; rw [if_pos HF.out]; rfl
              go_wp2_with (fail)
              refine (refMax_any _ (some ⟨w3.heap.size, 0, none⟩) 2 2 [⟨lm, lc⟩, ⟨sm, sc⟩] rfl ?_ (by simp)).mono ?_
              · exact Rd.new' rfl rfl rfl
              rw [HE.out]
              rintro e w5 ⟨rfl, hch5⟩
              have hch5' : Chg [] w3 w5 := ((Chg.refl _ _).alloc _).trans hch5 (by simp)
              have hT5 := hT3.keep hch5' (by simp)
              have p0 := hT5.cell 0
              have p1 := hT5.cell 1
              have p2 := hT5.free 0
              have p3 := hT5.free 1
              go_wp2_with (fail)
              go_roundg (n - (k + 1))
              case rel => exact ⟨k + 1, l2m, l2c, b, rfl, by omega, by go_num, HI2.out, (hA3.keep hch5' (by simp)).keep ((Chg.refl [w.heap.size + 1] _).set2 (.inl (by simp)) _ _) (by simp), hT5.set2 _ _, (hch4.trans hch5' (by simp)).set2 (.inr (by omega)) _ _⟩
              case measure => have := Hg.out; omega
            · have hrb : (r == 0) = false := by simpa using hr0
              have hl2 : (⟨l2m, l2c⟩ : St) = ⟨lm, lc⟩ := by rw [← HL.out]; unfold hearL; rw [if_neg (by rw [HF.out]; exact hr0)]
              injection hl2 with e1 e2
              subst e1 e2
              clear hr0
              go_wp2_with (fail)
              go_roundg (n - (k + 1))
              case rel => exact ⟨k + 1, l2m, l2c, b, rfl, by omega, by go_num, HI2.out, hA3, hT3, hch4⟩
              case measure => have := Hg.out; omega
        · have y2 : (kd == 2) = false := beq_eq_false_iff_ne.2 (fun h => z24 (.inl h))
          have y3 : (kd == 3) = false := beq_eq_false_iff_ne.2 z3
          have y4 : (kd == 4) = false := beq_eq_false_iff_ne.2 (fun h => z24 (.inr h))
          clear z24 z3
          have x1 := hs.cell 1
          have x4 := hs.lt
          by_cases hok : (sendF ⟨lm, lc⟩ b nn).2 = 0
          · obtain ⟨j0, j1, jF, j2, j3⟩ := sendF_inv hok
            obtain ⟨g1, g2, g3, g7⟩ := nextS_facts ⟨lm, lc⟩ nn j0 hI.c0
            have jL : sendL ⟨lm, lc⟩ b nn = nextS ⟨lm, lc⟩ nn := by unfold sendL; rw [if_pos hok, jF]
            have hI2 := sendL_ok (n := nn) hI
            rw [jL] at hI2
            obtain ⟨⟨tm, tc⟩, HN⟩ : ∃ s, Hid (nextS ⟨lm, lc⟩ nn = s) := ⟨_, rfl⟩
            rw [HN.out] at g1 g2 g3 g7 jF jL hI2 j2 j3
            simp only at g1 g2 g3 j2 j3
            obtain ⟨cc, HC⟩ : ∃ q, Hid (cmpS ⟨tm, tc⟩ ⟨lm, lc⟩ = q) := ⟨_, rfl⟩
            have hcc : 0 < cc := by rw [← HC.out]; exact g7
            have hcc2 : decide (cc ≤ 0) = false := by simp; omega
            have e1 : decide (tm < nn) = false := by simp; omega
            have e2 : decide (b ≤ tm) = false := by simp; omega
            have HF := Lib.hid jF
            have HL := Lib.hid jL
            have HI2 := Lib.hid hI2
            clear jF jL hI2 g1 g7 hok
            go_wp2_with (fail)
            refine (send_to _ w.heap.size ⟨lm, lc⟩ b nn hAs hI HF.out HL.out).mono ?_
            rintro e w3 ⟨rfl, hA3, hch3⟩
            have hT3 := hTs.keep hch3 (by simp)
            have hs3 := hs.keep hch3 (by simp; omega)
            have hA3' := hA3.keep ((Chg.refl [] _).alloc (.cells #[.int .i64 tm, .int .i64 tc] 24)) (by simp)
            have ha3 := At.new w3 24 #[.int .i64 tm, .int .i64 tc]
            have q0 := hT3.cell 0
            have q1 := hT3.cell 1
            have q4 := hT3.lt
            have y1 := hs3.cell 1
            have y5 := hs3.lt
            have hch4 : Chg [] w w3 := (hch.alloc _).trans hch3 (by simp)
            go_wp2_with (fail)
            go_region_held3 (fun w' => w'.cell? ⟨w3.heap.size, 0, none⟩ = some (.int .i64 tm) ∧ w'.cell? ⟨w3.heap.size, 1, none⟩ = some (.int .i64 tc) ∧ w'.cell? ⟨w.heap.size + 1, 0, none⟩ = some (.int .i64 lm) ∧ w'.cell? ⟨w.heap.size + 1, 1, none⟩ = some (.int .i64 lc) ∧ w'.cell? ⟨wr.heap.size, 1, none⟩ = some (.int .i64 nn)) (first | go_keep | exact ⟨z0, z1, z2, z3, z4⟩)
              (first
                | (go_at_call 21; refine (refCompare_gt _ _ _ _ _ cc HC.out).mono ?_; rintro e w5 ⟨rfl, hch5⟩; have hch5' : Chg [] w3 w5 := (((Chg.refl _ _).alloc _).drewN 1).trans hch5 (by simp); have ha5 := (ha3.drewN 1).keep hch5 (by simp); have z0 := ha5.cell 0; have z1 := ha5.cell 1; have hT5 := hT3.keep hch5' (by simp); have z2 := hT5.cell 0; have z3 := hT5.cell 1; have z4 := (hs3.keep hch5' (by simp)).cell 1; have hA5 := (hA3'.drewN 1).keep hch5 (by simp))
                | (go_at_call 33; refine (bound_any _ w.heap.size ⟨tm, tc⟩ b hA5).mono ?_; rintro e w' ⟨rfl, rfl⟩))
            have p2 := hT5.free 0
            have p3 := hT5.free 1
            have p4 := ha5.lt
            go_wp2_with (fail)
            go_roundg (n - (k + 1))
            case rel => exact ⟨k + 1, tm, tc, b, rfl, by omega, by go_num, HI2.out, hA5.keep ((Chg.refl [w.heap.size + 1] _).set2 (.inl (by simp)) _ _) (by simp), hT5.set2 _ _, (hch4.trans hch5' (by simp)).set2 (.inr (by omega)) _ _⟩
            case measure => have := Hg.out; omega
          · obtain ⟨⟨⟨rm, rc⟩, re⟩, HF⟩ : ∃ r, Hid (sendF ⟨lm, lc⟩ b nn = r) := ⟨_, rfl⟩
            rw [HF.out] at hok
            have hreb : (re != 0) = true := by simpa using hok
            have HL : Hid (sendL ⟨lm, lc⟩ b nn = ⟨lm, lc⟩) := by unfold Hid sendL; rw [HF.out, if_neg hok]
            clear hok
            go_wp2_with (fail)
            refine (send_to _ w.heap.size ⟨lm, lc⟩ b nn hAs hI HF.out HL.out).mono ?_
            rintro e w3 ⟨rfl, hA3, hch3⟩
            go_wp2_with (fail)
            go_roundg (n - (k + 1))
            case rel => exact ⟨k + 1, lm, lc, b, rfl, by omega, by go_num, hI, hA3.keep ((Chg.refl [] _).alloc _) (by simp), (hTs.keep hch3 (by simp)).keep ((Chg.refl [] _).alloc _) (by simp), ((hch.alloc _).trans hch3 (by simp)).alloc _⟩
            case measure => have := Hg.out; omega
    · have q0 := hT.cell 0
      have q1 := hT.cell 1
      by_cases hk2 : k < n
      · have h200 : ¬ ((k : Int) < 200) := by omega
        clear hlt
        go_wp2_with (fail)
        go_region_held3 (fun w' => w'.cell? ⟨w.heap.size + 1, 0, none⟩ = some (.int .i64 lm) ∧ w'.cell? ⟨w.heap.size + 1, 1, none⟩ = some (.int .i64 lc)) (first | go_keep | exact ⟨z0, z1⟩)
          (first
            | (go_at_call 25; refine (last_any _ w.heap.size ⟨lm, lc⟩ b (hA.drewN 1)).mono ?_; rintro e w5 ⟨rfl, hch5⟩; have hT5 := (hT.drewN 1).keep hch5 (by simp); have z0 := hT5.cell 0; have z1 := hT5.cell 1)
            | (go_at_call 16; refine (known_any _).mono ?_; rintro e w6 ⟨rfl, hch6⟩; have hT6 := hT5.keep hch6 (by simp); have z0 := hT6.cell 0; have z1 := hT6.cell 1))
        go_wp2_with (fail)
        go_ret
        exact ⟨rfl, ((hch.drewN 1).trans hch5 (by simp)).trans hch6 (by simp)⟩
      · clear hlt
        go_wp2_with (fail)
        go_region_held3 (fun w' => w'.cell? ⟨w.heap.size + 1, 0, none⟩ = some (.int .i64 lm) ∧ w'.cell? ⟨w.heap.size + 1, 1, none⟩ = some (.int .i64 lc)) (first | go_keep | exact ⟨z0, z1⟩)
          (first
            | (go_at_call 25; refine (last_any _ w.heap.size ⟨lm, lc⟩ b (hA.drewN 1)).mono ?_; rintro e w5 ⟨rfl, hch5⟩; have hT5 := (hT.drewN 1).keep hch5 (by simp); have z0 := hT5.cell 0; have z1 := hT5.cell 1)
            | (go_at_call 16; refine (known_any _).mono ?_; rintro e w6 ⟨rfl, hch6⟩; have hT6 := hT5.keep hch6 (by simp); have z0 := hT6.cell 0; have z1 := hT6.cell 1))
        go_wp2_with (fail)
        go_ret
        exact ⟨rfl, ((hch.drewN 1).trans hch5 (by simp)).trans hch6 (by simp)⟩
end Go.Proofs.Ytaamdgimjbgeeaa
