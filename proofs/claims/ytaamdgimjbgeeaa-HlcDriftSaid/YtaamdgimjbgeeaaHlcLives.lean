/-
  HlcLives: a clock that begins with the bound of an elder one gives stamps above all of that one.
-/
import Derived.Test.YtaamdgimjbgeeaaHlcN
import Derived.Test.YtaamdgimjbgeeaaHlcT
namespace Go.Proofs.Ytaamdgimjbgeeaa
open Go.RowKit
set_option linter.unusedVariables false
attribute [local go_sem ↓] run_min2 run_max2

theorem and40 (v : Int) : ∃ m : Nat, bits .and .i64 v 1099511627775 = (m : Int) ∧ m ≤ 1099511627775 := by
  have h : (BitVec.ofInt 64 v &&& BitVec.ofInt 64 1099511627775).toNat ≤ 1099511627775 := by
    rw [BitVec.toNat_and]
    exact Nat.le_trans Nat.and_le_right (by decide)
  refine ⟨(BitVec.ofInt 64 v &&& BitVec.ofInt 64 1099511627775).toNat, ?_, h⟩
  show IntKind.i64.wrap ((BitVec.ofInt 64 v &&& BitVec.ofInt 64 1099511627775).toNat : Int) = _
  rw [IntKind.wrap_i64]
  omega
/-- Send, where a stamp is given. -/
theorem sendF_ok {l : St} {b n : Int} {s : St} (hs : nextS l n = s) (h0 : 0 ≤ n) (h1 : n ≤ 281474976710655) (h2 : s.c ≤ 65535) (h3 : s.m < b) : sendF l b n = (s, 0) ∧ sendL l b n = s := by
  have e : sendF l b n = (s, 0) := by
    unfold sendF
    rw [hs, if_neg (by omega), if_neg (by omega), if_neg (by omega)]
  exact ⟨e, by unfold sendL; rw [e]; rfl⟩
theorem sendF_behind {l : St} {b n : Int} {s : St} (hs : nextS l n = s) (h0 : 0 ≤ n) (h1 : n ≤ 281474976710655) (h2 : s.c ≤ 65535) (h3 : b ≤ s.m) : sendF l b n = (⟨0, 0⟩, 18) ∧ sendL l b n = l := by
  have e : sendF l b n = (⟨0, 0⟩, 18) := by
    unfold sendF
    rw [hs, if_neg (by omega), if_neg (by omega), if_pos h3]; rfl
  exact ⟨e, by unfold sendL; rw [e]; rfl⟩
theorem nextS_facts (l : St) (n : Int) (h0 : 0 ≤ n) (hc : 0 ≤ l.c) : (nextS l n).m = max n l.m ∧ 0 ≤ (nextS l n).c ∧ (nextS l n).c ≤ l.c + 1 ∧ 0 < cmpS (nextS l n) l := by
  unfold nextS
  by_cases h : n ≤ l.m
  · rw [if_pos h]
    exact ⟨by simp only; omega, by simp only; omega, by simp only; omega, cmpS_gt.2 (.inr ⟨rfl, by simp only; omega⟩)⟩
  · rw [if_neg h]
    exact ⟨by simp only; omega, by simp only; omega, by simp only; omega, cmpS_gt.2 (.inl (by simp only; omega))⟩
theorem cmpS_trans_lt {a b c : St} (h1 : cmpS a b ≤ 0) (h2 : 0 < cmpS c b) : 0 < cmpS c a := by
  rw [cmpS_gt] at h2 ⊢
  have h3 : ¬ 0 < cmpS a b := by omega
  rw [cmpS_gt] at h3
  omega
theorem refCompare_gt (w : World) (am ac bm bc n : Int) (h : cmpS ⟨am, ac⟩ ⟨bm, bc⟩ = n) :
    Calls Try.prog 21 #[.agg #[.int .i64 am, .int .i64 ac], .agg #[.int .i64 bm, .int .i64 bc]] w fun e w' => e = .returned (.int .i64 n) ∧ Chg [] w w' := by
  subst h; exact refCompare_any _ _ _ _ _

theorem field_milli (w : World) (a b : Int) : (Instr.field 24 (.agg #[.int .i64 a, .int .i64 b]) 0).run Try.prog w = .ok (.int .i64 a) w := by kernel_rfl
set_option maxRecDepth 100000 in
set_option maxHeartbeats 6400000 in
theorem hlcLives_walk (w : World) (A1 : Option Addr) (n1 c1 : Nat) (ps : List Int) (hz1 : ps.length = n1) (hr1 : Rd w 1 A1 n1 (ps.map (Value.int .i64))) (_ : n1 ≤ c1) (_ : c1 ≤ maxLen) (_ : ∀ z ∈ ps, (Lit.int .i64 z).wf = true)
    (A2 : Option Addr) (n2 c2 : Nat) (qs : List Int) (hz2 : qs.length = n2) (hr2 : Rd w 1 A2 n2 (qs.map (Value.int .i64))) (_ : n2 ≤ c2) (_ : c2 ≤ maxLen) (_ : ∀ z ∈ qs, (Lit.int .i64 z).wf = true) :
    Calls Try.prog 11 #[.slice A1 n1 c1, .slice A2 n2 c2] w fun e w' => e = .returned (.bool true) ∧ Chg [] w w' := by
  subst hz1 hz2
  have hr1 : Rd w 1 A1 ps.length (cI ps) := hr1
  have hr2 : Rd w 1 A2 qs.length (cI qs) := hr2
  by_cases hbig : 100 < ps.length
  · go_enter Try.func11, Try.ntmps11
    go_wp2_with (fail)
    go_ret
    exact ⟨rfl, Chg.refl _ _⟩
  · have hn1 : ps.length ≤ 100 := by omega
    clear hbig
    by_cases hbig : 100 < qs.length
    · go_enter Try.func11, Try.ntmps11
      go_wp2_with (fail)
      go_ret
      exact ⟨rfl, Chg.refl _ _⟩
    · have hn2 : qs.length ≤ 100 := by omega
      clear hbig
      go_enter Try.func11, Try.ntmps11
      go_wp2_with (fail)
      refine (new_yes 0 _ (by omega) (by omega)).mono ?_
      rintro e w1 ⟨rfl, rfl⟩
      go_wp2_with (fail)
      go_loopg [8] ps.length (fun g i wr => ∃ (k : Nat) (lm lc b : Int), g = ps.length - k ∧ k ≤ ps.length ∧ i = .int .i64 k ∧ (0 ≤ lm ∧ lm ≤ 1099511627775 ∧ 0 ≤ lc ∧ lc ≤ k ∧ 0 ≤ b ∧ b ≤ 1099511628775 ∧ (lm < b ∨ lm = 0 ∧ lc = 0 ∧ b = 0)) ∧
        At wr w.heap.size 75 (clkC ⟨lm, lc⟩ b) ∧ At wr (w.heap.size + 1) 24 #[.int .i64 lm, .int .i64 lc] ∧ Chg [] w wr)
      case atStart => exact ⟨0, 0, 0, 0, rfl, by omega, rfl, by omega, (At.new _ _ _).keep ((Chg.refl [] _).alloc _) (by simp), (by simpa using At.new (w.alloc (.cells #[.int .i64 0, .int .i64 0, .int .i64 0] 75)) 24 #[.int .i64 0, .int .i64 0]), ((Chg.refl _ _).alloc _).alloc _⟩
      case round =>
        obtain ⟨k, lm, lc, b, hg, hk, rfl, ⟨f0, f1, f2, f3, f4, f5, f6⟩, hA, hT, hch⟩ := hrel
        have Hg := Lib.hid hg
        clear hg
        have hTl := hT.lt
        by_cases hlt : k < ps.length
        · obtain ⟨ad, u, rfl, had, hu, hc⟩ := (hr1.keep0 hch).get hlt
          rw [cI_get hlt] at hu
          obtain ⟨nn, Hnn, hnn⟩ := and40 ps[k]
          generalize ps[k] = z at *
          obtain rfl : Value.int .i64 z = u := by simpa using hu
          clear hu
          have Hnn := Lib.hid Hnn
          obtain ⟨g1, g2, g3, _⟩ := nextS_facts ⟨lm, lc⟩ nn (by omega) f2
          obtain ⟨⟨sm, sc⟩, HN⟩ : ∃ s, Hid (nextS ⟨lm, lc⟩ nn = s) := ⟨_, rfl⟩
          rw [HN.out] at g1 g2 g3
          simp only at g1 g2 g3
          have g4 : sm ≤ 1099511627775 := by omega
          have g5 : 0 ≤ sm := by omega
          have g6 : sc ≤ k + 1 := by omega
          have G1 := Lib.hid g1
          by_cases hbe : b ≤ sm
          · obtain ⟨hF, hL⟩ := sendF_behind (b := b) HN.out (by omega) (by omega) (by simp only; omega) (by simpa using hbe)
            obtain ⟨hF2, hL2⟩ := sendF_ok (b := sm + 1000) HN.out (by omega) (by omega) (by simp only; omega) (by simp only; omega)
            have hR1 : raiseF b (sm + 1000) = 0 := by unfold raiseF; rw [if_neg (by omega)]
            have hR2 : raiseB b (sm + 1000) = sm + 1000 := by unfold raiseB; rw [if_neg (by omega)]
            have HF := Lib.hid hF
            have HL := Lib.hid hL
            have HF2 := Lib.hid hF2
            have HL2 := Lib.hid hL2
            have HR1 := Lib.hid hR1
            have HR2 := Lib.hid hR2
            clear hF hL hF2 hL2 hR1 hR2 g1
            have hmx : max (nn : Int) lm = sm := G1.out.symm
            have hfd := field_milli
            have hne : ¬ (nn : Int) < 0 := by omega
            go_wp2_with (fail)
            refine (send_to _ w.heap.size ⟨lm, lc⟩ b nn hA (ClkI.mk' (by omega)) HF.out HL.out).mono ?_
            rintro e w3 ⟨rfl, hA3, hch3⟩
            have hA3l := hA3.lt
            have hT3 := (hT.keep hch3 (by simp)).keep ((Chg.refl [] _).alloc (.cells #[.int .i64 0, .int .i64 0] 24)) (by simp)
            have hs3 := At.new w3 24 #[.int .i64 0, .int .i64 0]
            have hA3' := hA3.keep ((Chg.refl [] _).alloc (.cells #[.int .i64 0, .int .i64 0] 24)) (by simp)
            have hT3l := (hT.keep hch3 (by simp)).lt
            go_wp2_with (fail)
            refine (last_any _ w.heap.size ⟨lm, lc⟩ b hA3').mono ?_
            rintro e w4 ⟨rfl, hch4⟩
            go_wp2_with (fail)
            refine (raise_to _ w.heap.size ⟨lm, lc⟩ b (sm + 1000) (hA3'.keep hch4 (by simp)) HR1.out HR2.out).mono ?_
            rintro e w5 ⟨rfl, hA5, hch5⟩
            go_wp2_with (fail)
            refine (send_to _ w.heap.size ⟨lm, lc⟩ (sm + 1000) nn hA5 (ClkI.mk' (by omega)) HF2.out HL2.out).mono ?_
            rintro e w6 ⟨rfl, hA6, hch6⟩
            have hs6 := ((hs3.keep hch4 (by simp)).keep hch5 (by simp; omega)).keep hch6 (by simp; omega)
            have hT6 := ((hT3.keep hch4 (by simp)).keep hch5 (by simp)).keep hch6 (by simp)
            have p0 := hs6.cell 0
            have p1 := hs6.cell 1
            have p2 := hs6.free 0
            have p3 := hs6.free 1
            have p4 := hs6.lt
            have q0 := hT6.cell 0
            have q1 := hT6.cell 1
            have q2 := hT6.free 0
            have q3 := hT6.free 1
            have hch7 : Chg [] w w6 := ((((hch.trans hch3 (by simp)).alloc _).trans hch4 (by simp)).trans hch5 (by simp)).trans hch6 (by simp)
            go_wp2_with (fail)
            go_roundg (ps.length - (k + 1))
            case rel =>
              refine ⟨k + 1, sm, sc, sm + 1000, rfl, by omega, by go_num, by omega, ?_, ?_, ?_⟩
              · exact (hA6.keep ((Chg.refl [w3.heap.size] _).set2 (.inl (by simp)) _ _) (by simp; omega)).keep ((Chg.refl [w.heap.size + 1] _).set2 (.inl (by simp)) _ _) (by simp)
              · exact (hT6.keep ((Chg.refl [w3.heap.size] _).set2 (.inl (by simp)) _ _) (by simp; omega)).set2 _ _
              · exact (hch7.set2 (.inr (by omega)) _ _).set2 (.inr (by omega)) _ _
            case measure => have := Hg.out; omega
          · obtain ⟨hF, hL⟩ := sendF_ok (b := b) HN.out (by omega) (by omega) (by simp only; omega) (by simp only; omega)
            have HF := Lib.hid hF
            have HL := Lib.hid hL
            clear hF hL g1
            go_wp2_with (fail)
            refine (send_to _ w.heap.size ⟨lm, lc⟩ b nn hA (ClkI.mk' (by omega)) HF.out HL.out).mono ?_
            rintro e w3 ⟨rfl, hA3, hch3⟩
            have hA3l := hA3.lt
            have hT3 := (hT.keep hch3 (by simp)).keep ((Chg.refl [] _).alloc (.cells #[.int .i64 sm, .int .i64 sc] 24)) (by simp)
            have hA3' := hA3.keep ((Chg.refl [] _).alloc (.cells #[.int .i64 sm, .int .i64 sc] 24)) (by simp)
            have hT3l := (hT.keep hch3 (by simp)).lt
            have hT3c := hT.keep hch3 (by simp)
            have q0 := hT3c.cell 0
            have q1 := hT3c.cell 1
            have q2 := hT3c.free 0
            have q3 := hT3c.free 1
            go_wp2_with (fail)
            go_roundg (ps.length - (k + 1))
            case rel =>
              refine ⟨k + 1, sm, sc, b, rfl, by omega, by go_num, by omega, ?_, ?_, ?_⟩
              · exact (hA3.keep ((Chg.refl [w.heap.size + 1] _).set2 (.inl (by simp)) _ _) (by simp)).keep ((Chg.refl [] _).alloc _) (by simp)
              · exact (hT3c.set2 _ _).keep ((Chg.refl [] _).alloc _) (by simp)
              · exact ((hch.trans hch3 (by simp)).set2 (.inr (by omega)) _ _).alloc _
            case measure => have := Hg.out; omega
        · obtain rfl : k = ps.length := by omega
          have hAl := hA.lt
          go_wp2_with (fail)
          refine (bound_any _ w.heap.size ⟨lm, lc⟩ b hA).mono ?_
          rintro e w' ⟨rfl, rfl⟩
          go_wp2_with (fail)
          refine (new_yes b _ (by omega) (by omega)).mono ?_
          rintro e w3 ⟨rfl, rfl⟩
          have hD3 : At (wr.alloc (.cells #[.int .i64 b, .int .i64 0, .int .i64 b] 75)) wr.heap.size 75 (clkC ⟨b, 0⟩ b) := At.new _ _ _
          have hR1 : raiseF b 35184372088832 = 0 := by unfold raiseF; rw [if_neg (by omega)]
          have hR2 : raiseB b 35184372088832 = 35184372088832 := by unfold raiseB; rw [if_neg (by omega)]
          have HR1 := Lib.hid hR1
          have HR2 := Lib.hid hR2
          clear hR1 hR2
          go_wp2_with (fail)
          refine (raise_to _ wr.heap.size ⟨b, 0⟩ b 35184372088832 hD3 HR1.out HR2.out).mono ?_
          rintro e w4 ⟨rfl, hD4, hch4⟩
          have hT4 := (hT.keep ((Chg.refl [] _).alloc (.cells #[.int .i64 b, .int .i64 0, .int .i64 b] 75)) (by simp)).keep hch4 (by simp; omega)
          have hch5 : Chg [] w w4 := (hch.alloc _).trans hch4 (by simp; exact hch.size)
          have Hle : Hid (cmpS ⟨lm, lc⟩ ⟨b, 0⟩ ≤ 0) := by
            have h9 : ¬ 0 < cmpS ⟨lm, lc⟩ ⟨b, 0⟩ := by rw [cmpS_gt]; simp only; omega
            unfold Hid; omega
          obtain ⟨D, HD⟩ : ∃ D, Hid (wr.heap.size = D) := ⟨_, rfl⟩
          have hwD : w.heap.size + 1 < D := by rw [← HD.out]; omega
          rw [HD.out] at hD4 hch4 ⊢
          clear hD3 hT hA
          go_wp2_with (fail)
          go_loopg [14] qs.length (fun g i wq => ∃ (k : Nat) (em ec tm tc : Int), g = qs.length - k ∧ k ≤ qs.length ∧ i = .int .i64 k ∧ (0 ≤ em ∧ em ≤ 1099511628775 ∧ 0 ≤ ec ∧ ec ≤ k) ∧ Hid (cmpS ⟨tm, tc⟩ ⟨em, ec⟩ ≤ 0) ∧
            At wq D 75 (clkC ⟨em, ec⟩ 35184372088832) ∧ At wq (w.heap.size + 1) 24 #[.int .i64 tm, .int .i64 tc] ∧ Chg [] w wq)
          case atStart => exact ⟨0, b, 0, lm, lc, rfl, by omega, rfl, by omega, Hle, hD4, hT4, hch5⟩
          case round =>
            clear hch Hle hT4 hD4 hch5 hch4 Hg
            obtain ⟨k, em, ec, tm, tc, hg, hk, rfl, ⟨f0, f1, f2, f3⟩, Hle, hD, hT, hch⟩ := hrel
            have Hg := Lib.hid hg
            clear hg
            have hTl := hT.lt
            by_cases hlt : k < qs.length
            · obtain ⟨ad, u, rfl, had, hu, hc⟩ := (hr2.keep0 hch).get hlt
              rw [cI_get hlt] at hu
              obtain ⟨nn, Hnn, hnn⟩ := and40 qs[k]
              generalize qs[k] = z at *
              obtain rfl : Value.int .i64 z = u := by simpa using hu
              clear hu
              have Hnn := Lib.hid Hnn
              obtain ⟨g1, g2, g3, g7⟩ := nextS_facts ⟨em, ec⟩ nn (by omega) f2
              obtain ⟨⟨sm, sc⟩, HN⟩ : ∃ s, Hid (nextS ⟨em, ec⟩ nn = s) := ⟨_, rfl⟩
              rw [HN.out] at g1 g2 g3 g7
              simp only at g1 g2 g3
              have g4 : sm ≤ 1099511628775 := by omega
              have g5 : 0 ≤ sm := by omega
              have g6 : sc ≤ k + 1 := by omega
              obtain ⟨hF, hL⟩ := sendF_ok (b := 35184372088832) HN.out (by omega) (by omega) (by simp only; omega) (by simp only; omega)
              obtain ⟨cc, HC⟩ : ∃ q, Hid (cmpS ⟨sm, sc⟩ ⟨tm, tc⟩ = q) := ⟨_, rfl⟩
              have hcc : 0 < cc := by rw [← HC.out]; exact cmpS_trans_lt Hle.out g7
              have hcc2 : decide (cc ≤ 0) = false := by simp; omega
              have HF := Lib.hid hF
              have HL := Lib.hid hL
              clear hF hL g1 g7
              go_wp2_with (fail)
              refine (send_to _ D ⟨em, ec⟩ 35184372088832 nn hD (ClkI.mk' (by omega)) HF.out HL.out).mono ?_
              rintro e w3 ⟨rfl, hD3, hch3⟩
              have hT3 := (hT.keep hch3 (by simp; omega)).keep ((Chg.refl [] _).alloc (.cells #[.int .i64 sm, .int .i64 sc] 24)) (by simp)
              have hT3c := hT.keep hch3 (by simp; omega)
              have q0 := hT3c.cell 0
              have q1 := hT3c.cell 1
              have q4 := hT3c.lt
              have hs3 := At.new w3 24 #[.int .i64 sm, .int .i64 sc]
              go_wp2_with (fail)
              refine (refCompare_gt _ _ _ _ _ cc HC.out).mono ?_
              rintro e w4 ⟨rfl, hch4⟩
              have hT4 := hT3.keep hch4 (by simp)
              have hs4 := hs3.keep hch4 (by simp)
              have p0 := hs4.cell 0
              have p1 := hs4.cell 1
              have p4 := hs4.lt
              have q0 := hT4.cell 0
              have q1 := hT4.cell 1
              have q2 := hT4.free 0
              have q3 := hT4.free 1
              go_wp2_with (fail)
              go_roundg (qs.length - (k + 1))
              case rel =>
                refine ⟨k + 1, sm, sc, sm, sc, rfl, by omega, by go_num, by omega, ?_, ?_, ?_, ?_⟩
                · have := (cmpS_eq (a := ⟨sm, sc⟩) (b := ⟨sm, sc⟩)).2 ⟨rfl, rfl⟩; unfold Hid; omega
                · exact ((hD3.keep ((Chg.refl [] _).alloc _) (by simp)).keep hch4 (by simp)).keep ((Chg.refl [w.heap.size + 1] _).set2 (.inl (by simp)) _ _) (by simp; omega)
                · exact hT4.set2 _ _
                · exact ((((hch.trans hch3 (by simp; omega)).alloc _).trans hch4 (by simp)).set2 (.inr (by omega)) _ _)
              case measure => have := Hg.out; omega
            · obtain rfl : k = qs.length := by omega
              go_wp2_with (go_at_call 16; refine (known_any _).mono ?_; rintro e w6 ⟨rfl, hch6⟩)
              go_ret
              exact ⟨rfl, hch.trans hch6 (by simp)⟩
end Go.Proofs.Ytaamdgimjbgeeaa
