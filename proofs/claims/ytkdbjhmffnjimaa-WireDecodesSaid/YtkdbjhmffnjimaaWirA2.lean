
/-
  Merged by merge.py: WirI, WirI2, WirE, WirD, WirL.
-/
import Derived.Test.YtkdbjhmffnjimaaRecW
import Derived.Test.YtkdbjhmffnjimaaRecS
import Derived.Test.YtkdbjhmffnjimaaMStH
import Derived.Test.YtkdbjhmffnjimaaMBase
import Derived.Test.YtkdbjhmffnjimaaWirA1
import Derived.Test.YtkdbjhmffnjimaaRecLi
import Derived.Test.YtkdbjhmffnjimaaFraE
import Derived.Test.YtkdbjhmffnjimaaMOct
import Derived.Test.YtkdbjhmffnjimaaMFra
import Derived.Test.YtkdbjhmffnjimaaMRecR
import Derived.Test.YtkdbjhmffnjimaaMRecQ
import Derived.BigQuiet
namespace Go.Proofs.Ytkdbjhmffnjimaa
open Go.RowKit
set_option linter.unusedVariables false

set_option maxRecDepth 100000 in
set_option maxHeartbeats 1600000 in
theorem isStamp_any (w : World) (m c : Int) : Calls Try.prog 48 #[.agg #[.int .i64 m, .int .i64 c]] w fun e w' => e = .returned (.bool (isS m c)) ∧ Chg [] w w' := by
  obtain ⟨s, hs⟩ : ∃ s, Hid (isS m c = s) := ⟨_, rfl⟩
  rw [hs.out]
  cases s
  · go_enter Try.func48, Try.ntmps48
    go_wp2_with (fail)
    refine (pack_no _ _ _ hs.out).mono ?_
    rintro e w1 ⟨rfl, hch1⟩
    go_wp2_with (fail)
    go_ret
    exact ⟨rfl, ((Chg.refl [] w).alloc _).trans hch1 (by simp)⟩
  · go_enter Try.func48, Try.ntmps48
    go_wp2_with (fail)
    refine (pack_yes _ _ _ hs.out).mono ?_
    rintro e w1 ⟨rfl, hch1⟩
    go_wp2_with (fail)
    go_ret
    exact ⟨rfl, ((Chg.refl [] w).alloc _).trans hch1 (by simp)⟩

set_option maxRecDepth 100000 in
set_option maxHeartbeats 1600000 in
theorem goes_any (w : World) (kd o q sm sc fm fc : Int) (A : Option Addr) (n c : Nat) (ls : List RcV) (hn : ls.length = n) (hr : Rd w 9 A ls.length (cRc ls)) (hls : ls.length ≤ 1099511627776) (hq0 : 0 ≤ q) (hq1 : q ≤ 1099511627776) :
    Calls Try.prog 47 #[.agg #[.int .i64 kd, .int .i64 o, .int .i64 q, .int .i64 sm, .int .i64 sc, .int .i64 fm, .int .i64 fc, .slice A n c]] w fun e w' =>
      e = .returned (.bool (goesW ⟨kd, o, q, sm, sc, fm, fc, ls.map RcV.r⟩)) ∧ Chg [] w w' := by
  subst hn
  have HR := Lib.hid (hr.alloc (.cells #[.int .i64 kd, .int .i64 o, .int .i64 q, .int .i64 sm, .int .i64 sc, .int .i64 fm, .int .i64 fc, .slice A ls.length c] 26))
  clear hr
  have h0 := Chg.alloc (.refl [] w) (.cells #[.int .i64 kd, .int .i64 o, .int .i64 q, .int .i64 sm, .int .i64 sc, .int .i64 fm, .int .i64 fc, .slice A ls.length c] 26)
  have a0 := At.new w 26 #[.int .i64 kd, .int .i64 o, .int .i64 q, .int .i64 sm, .int .i64 sc, .int .i64 fm, .int .i64 fc, .slice A ls.length c]
  go_enter Try.func47, Try.ntmps47
  go_wp2_with (fail)
  generalize w.alloc (.cells #[.int .i64 kd, .int .i64 o, .int .i64 q, .int .i64 sm, .int .i64 sc, .int .i64 fm, .int .i64 fc, .slice A ls.length c] 26) = w0 at *
  go_loopw [8] (fun i wr => ∃ k : Nat, k ≤ ls.length ∧ i = .int .i64 k ∧ Hid (∀ j (h : j < ls.length), j < k → isR ls[j].r = true ∧ ls[j].r.o = o ∧ ls[j].r.q = q + j) ∧ At wr w.heap.size 26 #[.int .i64 kd, .int .i64 o, .int .i64 q, .int .i64 sm, .int .i64 sc, .int .i64 fm, .int .i64 fc, .slice A ls.length c] ∧ Chg [] w wr ∧ Chg [] w0 wr) (fun i _ => ls.length - (intOf i).toNat)
  case atStart => exact ⟨0, Nat.zero_le _, rfl, by intro j h hj; omega, a0, h0, Chg.refl _ _⟩
  case round =>
    obtain ⟨k, hk, rfl, HI, a1, hch, hch0⟩ := hrel
    have y1 := a1.cell 1
    have y2 := a1.cell 2
    have y7 := a1.cell 7
    simp only [List.getElem?_toArray, List.getElem?_cons_zero, List.getElem?_cons_succ] at y1 y2 y7
    by_cases hlt : k < ls.length
    · obtain ⟨ad, rfl, had, hc0, hc⟩ := (HR.out.keep0 hch0).getR hlt
      have HNo : Hid (isR ls[k].r = false ∨ ls[k].r.o ≠ o ∨ ls[k].r.q ≠ q + k → goesW ⟨kd, o, q, sm, sc, fm, fc, ls.map RcV.r⟩ = false) := fun h => by
        unfold goesW
        simp only
        rw [goesL_no (i := k) (by simpa using hlt) (by simpa using h)]
        rfl
      have HYes : Hid (isR ls[k].r = true → ls[k].r.o = o → ls[k].r.q = q + k → ∀ j (h : j < ls.length), j < k + 1 → isR ls[j].r = true ∧ ls[j].r.o = o ∧ ls[j].r.q = q + j) := fun h1 h2 h3 j h hj => by
        by_cases e : j = k
        · subst e; exact ⟨h1, h2, h3⟩
        · exact HI.out j h (by omega)
      have hc1 := hc 1 _ (by omega) rfl
      have hc2 := hc 2 _ (by omega) rfl
      have hc3 := hc 3 _ (by omega) rfl
      have hc4 := hc 4 _ (by omega) rfl
      have hc5 := hc 5 _ (by omega) rfl
      have hc6 := hc 6 _ (by omega) rfl
      have hc7 := hc 7 _ (by omega) rfl
      have hc8 := hc 8 _ (by omega) rfl
      generalize ls[k] = r at *
      clear hc
      obtain ⟨⟨ro, rq, key, m, c', vo, val, gone, ttl⟩, A', cp⟩ := r
      simp only at hc0 hc1 hc2 hc3 hc4 hc5 hc6 hc7 hc8 HNo HYes
      have hki : (k : Int) < (ls.length : Int) := by omega
      go_wp2_with (fail)
      refine (recIs_any _ ro rq key m c' vo A' val cp gone ttl).mono ?_
      rintro e w3 ⟨rfl, hch3⟩
      have g3 := (At.new wr 50 #[.int .i64 ro, .int .i64 rq, .string ⟨key.toArray⟩, .int .i64 m, .int .i64 c', .int .i64 vo, .slice A' val.length cp, .bool gone, .int .i64 ttl]).keep hch3 (by simp)
      have a3 := (a1.al (.cells #[.int .i64 ro, .int .i64 rq, .string ⟨key.toArray⟩, .int .i64 m, .int .i64 c', .int .i64 vo, .slice A' val.length cp, .bool gone, .int .i64 ttl] 50)).keep hch3 (by simp)
      have hcw := (hch.alloc (.cells #[.int .i64 ro, .int .i64 rq, .string ⟨key.toArray⟩, .int .i64 m, .int .i64 c', .int .i64 vo, .slice A' val.length cp, .bool gone, .int .i64 ttl] 50)).trans hch3 (by simp)
      have hcw0 := (hch0.alloc (.cells #[.int .i64 ro, .int .i64 rq, .string ⟨key.toArray⟩, .int .i64 m, .int .i64 c', .int .i64 vo, .slice A' val.length cp, .bool gone, .int .i64 ttl] 50)).trans hch3 (by simp)
      have z0 := g3.cell 0
      have z1 := g3.cell 1
      have u1 := a3.cell 1
      have u2 := a3.cell 2
      simp only [List.getElem?_toArray, List.getElem?_cons_zero, List.getElem?_cons_succ] at z0 z1 u1 u2
      clear hc0 hc1 hc2 hc3 hc4 hc5 hc6 hc7 hc8 hch3 y1 y2 y7 g3
      obtain ⟨s, hs⟩ : ∃ s, Hid (isR ⟨ro, rq, key, m, c', vo, val, gone, ttl⟩ = s) := ⟨_, rfl⟩
      rw [hs.out] at HNo HYes ⊢
      cases s
      · have HN := Lib.hid (HNo.out (.inl rfl))
        go_wp2_with (fail)
        go_ret
        exact ⟨by rw [HN.out]; rfl, hcw⟩
      · by_cases ho : ro = o
        · have hob : ((ro : Int) != o) = false := by rw [ho]; simp
          by_cases hq : rq = q + k
          · have hqb : ((rq : Int) != q + k) = false := by rw [hq]; simp
            have HY := Lib.hid (HYes.out rfl ho hq)
            have Ho := Lib.hid ho
            have Hq := Lib.hid hq
            clear ho hq HNo HYes
            go_wp2_with (fail)
            go_roundw
            case rel => exact ⟨k + 1, by omega, by go_num, HY.out, a3, hcw, hcw0⟩
            case measure => simp [intOf]; omega
          · have hqb : ((rq : Int) != q + k) = true := by rw [bne_iff_ne]; exact hq
            have HN := Lib.hid (HNo.out (.inr (.inr hq)))
            have Ho := Lib.hid ho
            clear ho hq HNo HYes
            go_wp2_with (fail)
            go_ret
            exact ⟨by rw [HN.out]; rfl, hcw⟩
        · have hob : ((ro : Int) != o) = true := by rw [bne_iff_ne]; exact ho
          have HN := Lib.hid (HNo.out (.inr (.inl ho)))
          clear ho HNo HYes
          go_wp2_with (fail)
          go_ret
          exact ⟨by rw [HN.out]; rfl, hcw⟩
    · obtain rfl : k = ls.length := by omega
      have HG : Hid (goesL o q (ls.map RcV.r) = true) := by
        unfold Hid; rw [goesL_iff]
        intro i hi
        have h1 := HI.out i (by simpa using hi) (by simpa using hi)
        simpa using h1
      have HW : Hid (goesW ⟨kd, o, q, sm, sc, fm, fc, ls.map RcV.r⟩ = (decide (1 ≤ ls.length) && decide (ls.length ≤ 64))) := by
        unfold Hid goesW; simp only [HG.out, List.length_map, Bool.true_and]
      by_cases h1 : 1 ≤ ls.length
      · have h1b : (1 : Int) ≤ (ls.length : Int) := by omega
        by_cases h64 : ls.length ≤ 64
        · have h2b : (ls.length : Int) ≤ 64 := by omega
          go_wp2_with (fail)
          go_ret
          exact ⟨by rw [HW.out, decide_eq_true h1]; simp [h64], hch⟩
        · have h2b : ¬ (ls.length : Int) ≤ 64 := by omega
          go_wp2_with (fail)
          go_ret
          exact ⟨by rw [HW.out, decide_eq_true h1]; simp [h64], hch⟩
      · have h1b : ¬ (1 : Int) ≤ (ls.length : Int) := by omega
        go_wp2_with (fail)
        go_ret
        exact ⟨by rw [HW.out]; simp [h1], hch⟩
end Go.Proofs.Ytkdbjhmffnjimaa
namespace Go.Proofs.Ytkdbjhmffnjimaa
open Go.RowKit
set_option linter.unusedVariables false

set_option maxRecDepth 100000 in
set_option maxHeartbeats 3200000 in
theorem isW_any (w : World) (kd o q sm sc fm fc : Int) (A : Option Addr) (n c : Nat) (ls : List RcV) (hn : ls.length = n) (hr : Rd w 9 A ls.length (cRc ls)) (hls : ls.length ≤ 1099511627776) :
    Calls Try.prog 22 #[.agg #[.int .i64 kd, .int .i64 o, .int .i64 q, .int .i64 sm, .int .i64 sc, .int .i64 fm, .int .i64 fc, .slice A n c]] w fun e w' =>
      e = .returned (.bool (isW ⟨kd, o, q, sm, sc, fm, fc, ls.map RcV.r⟩)) ∧ Chg [] w w' := by
  subst hn
  have HR := Lib.hid (hr.alloc (.cells #[.int .i64 kd, .int .i64 o, .int .i64 q, .int .i64 sm, .int .i64 sc, .int .i64 fm, .int .i64 fc, .slice A ls.length c] 26))
  clear hr
  have h0 := Chg.alloc (.refl [] w) (.cells #[.int .i64 kd, .int .i64 o, .int .i64 q, .int .i64 sm, .int .i64 sc, .int .i64 fm, .int .i64 fc, .slice A ls.length c] 26)
  have a0 := At.new w 26 #[.int .i64 kd, .int .i64 o, .int .i64 q, .int .i64 sm, .int .i64 sc, .int .i64 fm, .int .i64 fc, .slice A ls.length c]
  have hrs0 : Hid (ls.map RcV.r = [] ↔ ls.length = 0) := by unfold Hid; rw [List.map_eq_nil_iff, List.length_eq_zero_iff]
  by_cases g1 : o < 0
  · have HN : Hid (isW ⟨kd, o, q, sm, sc, fm, fc, ls.map RcV.r⟩ = false) := by unfold Hid isW headW; simp only [decide_eq_false (show ¬ 0 ≤ o by omega), Bool.false_and]
    go_enter Try.func22, Try.ntmps22
    go_wp2_with (fail)
    go_ret
    exact ⟨by rw [HN.out]; rfl, h0⟩
  by_cases g2 : 5 ≤ o
  · have HN : Hid (isW ⟨kd, o, q, sm, sc, fm, fc, ls.map RcV.r⟩ = false) := by unfold Hid isW headW; simp only [decide_eq_false (show ¬ o < 5 by omega), Bool.false_and, Bool.and_false]
    go_enter Try.func22, Try.ntmps22
    go_wp2_with (fail)
    go_ret
    exact ⟨by rw [HN.out]; rfl, h0⟩
  by_cases g3 : q < 0
  · have HN : Hid (isW ⟨kd, o, q, sm, sc, fm, fc, ls.map RcV.r⟩ = false) := by unfold Hid isW headW; simp only [decide_eq_false (show ¬ 0 ≤ q by omega), Bool.false_and, Bool.and_false]
    go_enter Try.func22, Try.ntmps22
    go_wp2_with (fail)
    go_ret
    exact ⟨by rw [HN.out]; rfl, h0⟩
  by_cases g4 : 1099511627776 < q
  · have HN : Hid (isW ⟨kd, o, q, sm, sc, fm, fc, ls.map RcV.r⟩ = false) := by unfold Hid isW headW; simp only [decide_eq_false (show ¬ q ≤ 1099511627776 by omega), Bool.false_and, Bool.and_false]
    go_enter Try.func22, Try.ntmps22
    go_wp2_with (fail)
    go_ret
    exact ⟨by rw [HN.out]; rfl, h0⟩
  have hh : Hid (headW ⟨kd, o, q, sm, sc, fm, fc, ls.map RcV.r⟩ = true) := by unfold Hid headW; simp only [decide_eq_true (show 0 ≤ o by omega), decide_eq_true (show o < 5 by omega), decide_eq_true (show 0 ≤ q by omega), decide_eq_true (show q ≤ 1099511627776 by omega), Bool.and_self]
  obtain ⟨nn, hnn⟩ : ∃ nn, Hid ((decide (sm = 0) && decide (sc = 0) && decide (fm = 0) && decide (fc = 0)) = nn) := ⟨_, rfl⟩
  have hIs : Hid (isW ⟨kd, o, q, sm, sc, fm, fc, ls.map RcV.r⟩ = if kd = 1 then nn && goesW ⟨kd, o, q, sm, sc, fm, fc, ls.map RcV.r⟩ else if kd = 2 then nn && decide (ls.map RcV.r = []) else if kd = 3 then isS sm sc && isS fm fc && decide (ls.map RcV.r = []) else false) := by
    unfold Hid isW; rw [hh.out, ← hnn.out]; rfl

  by_cases k3 : kd = 3
  · have hI3 : Hid (isW ⟨kd, o, q, sm, sc, fm, fc, ls.map RcV.r⟩ = (isS sm sc && isS fm fc && decide (ls.map RcV.r = []))) := by unfold Hid; rw [hIs.out, if_neg (by omega), if_neg (by omega), if_pos k3]
    subst k3
    clear hIs hnn hh
    obtain ⟨s1, hs1⟩ : ∃ s, Hid (isS sm sc = s) := ⟨_, rfl⟩
    obtain ⟨s2, hs2⟩ : ∃ s, Hid (isS fm fc = s) := ⟨_, rfl⟩
    obtain ⟨s3, hs3⟩ : ∃ s, Hid (decide (ls.map RcV.r = []) = s) := ⟨_, rfl⟩
    have hl3 : Hid (s3 = decide (ls.length = 0)) := by unfold Hid; rw [← hs3.out]; exact decide_eq_decide.2 hrs0.out
    have hI4 : Hid (isW ⟨3, o, q, sm, sc, fm, fc, ls.map RcV.r⟩ = (s1 && s2 && s3)) := by unfold Hid; rw [hI3.out, hs1.out, hs2.out, hs3.out]
    clear hI3 hs3 hrs0
    have fin : ∀ b : Bool, (s1 && s2 && s3) = b → ∀ w', Chg [] w w' → (Ending.returned (.bool b) = Ending.returned (.bool (isW ⟨3, o, q, sm, sc, fm, fc, ls.map RcV.r⟩)) ∧ Chg [] w w') := fun b hb w' hc => ⟨by rw [hI4.out, hb], hc⟩
    have Fin := Lib.hid fin
    clear fin hI4
    by_cases esm : sm = 0
    rotate_left
    · go_enter Try.func22, Try.ntmps22
      go_wp2_with (fail)
      refine (isStamp_any _ _ _).mono ?_
      rintro e w1 ⟨rfl, hch1⟩
      rw [hs1.out]
      have a1 := a0.keep hch1 (by simp)
      have c1 := h0.trans hch1 (by simp)
      have y5 := a1.cell 5
      have y6 := a1.cell 6
      have y7 := a1.cell 7
      simp only [List.getElem?_toArray, List.getElem?_cons_zero, List.getElem?_cons_succ] at y5 y6 y7
      cases s1
      · go_wp2_with (fail)
        go_ret
        exact Fin.out false rfl _ c1
      · go_wp2_with (fail)
        refine (isStamp_any _ _ _).mono ?_
        rintro e w2 ⟨rfl, hch2⟩
        rw [hs2.out]
        have a2 := a1.keep hch2 (by simp)
        have c2 := c1.trans hch2 (by simp)
        have z7 := a2.cell 7
        simp only [List.getElem?_toArray, List.getElem?_cons_zero, List.getElem?_cons_succ] at z7
        clear y5 y6 y7
        cases s2
        · go_wp2_with (fail)
          go_ret
          exact Fin.out false rfl _ c2
        · by_cases hl0 : ls.length = 0
          · have e3 := hl3.out
            rw [decide_eq_true hl0] at e3
            subst e3
            have hli : ((ls.length : Int) == 0) = true := by rw [hl0]; rfl
            have HL0 := Lib.hid hl0
            clear hl0
            go_wp2_with (fail)
            go_ret
            exact Fin.out true rfl _ c2
          · have e3 := hl3.out
            rw [decide_eq_false hl0] at e3
            subst e3
            have hli : ((ls.length : Int) == 0) = false := by rw [beq_eq_false_iff_ne]; omega
            have HL0 := Lib.hid hl0
            clear hl0
            go_wp2_with (fail)
            go_ret
            exact Fin.out false rfl _ c2
    subst esm
    by_cases esc : sc = 0
    rotate_left
    · go_enter Try.func22, Try.ntmps22
      go_wp2_with (fail)
      refine (isStamp_any _ _ _).mono ?_
      rintro e w1 ⟨rfl, hch1⟩
      rw [hs1.out]
      have a1 := a0.keep hch1 (by simp)
      have c1 := h0.trans hch1 (by simp)
      have y5 := a1.cell 5
      have y6 := a1.cell 6
      have y7 := a1.cell 7
      simp only [List.getElem?_toArray, List.getElem?_cons_zero, List.getElem?_cons_succ] at y5 y6 y7
      cases s1
      · go_wp2_with (fail)
        go_ret
        exact Fin.out false rfl _ c1
      · go_wp2_with (fail)
        refine (isStamp_any _ _ _).mono ?_
        rintro e w2 ⟨rfl, hch2⟩
        rw [hs2.out]
        have a2 := a1.keep hch2 (by simp)
        have c2 := c1.trans hch2 (by simp)
        have z7 := a2.cell 7
        simp only [List.getElem?_toArray, List.getElem?_cons_zero, List.getElem?_cons_succ] at z7
        clear y5 y6 y7
        cases s2
        · go_wp2_with (fail)
          go_ret
          exact Fin.out false rfl _ c2
        · by_cases hl0 : ls.length = 0
          · have e3 := hl3.out
            rw [decide_eq_true hl0] at e3
            subst e3
            have hli : ((ls.length : Int) == 0) = true := by rw [hl0]; rfl
            have HL0 := Lib.hid hl0
            clear hl0
            go_wp2_with (fail)
            go_ret
            exact Fin.out true rfl _ c2
          · have e3 := hl3.out
            rw [decide_eq_false hl0] at e3
            subst e3
            have hli : ((ls.length : Int) == 0) = false := by rw [beq_eq_false_iff_ne]; omega
            have HL0 := Lib.hid hl0
            clear hl0
            go_wp2_with (fail)
            go_ret
            exact Fin.out false rfl _ c2
    subst esc
    by_cases efm : fm = 0
    rotate_left
    · go_enter Try.func22, Try.ntmps22
      go_wp2_with (fail)
      refine (isStamp_any _ _ _).mono ?_
      rintro e w1 ⟨rfl, hch1⟩
      rw [hs1.out]
      have a1 := a0.keep hch1 (by simp)
      have c1 := h0.trans hch1 (by simp)
      have y5 := a1.cell 5
      have y6 := a1.cell 6
      have y7 := a1.cell 7
      simp only [List.getElem?_toArray, List.getElem?_cons_zero, List.getElem?_cons_succ] at y5 y6 y7
      cases s1
      · go_wp2_with (fail)
        go_ret
        exact Fin.out false rfl _ c1
      · go_wp2_with (fail)
        refine (isStamp_any _ _ _).mono ?_
        rintro e w2 ⟨rfl, hch2⟩
        rw [hs2.out]
        have a2 := a1.keep hch2 (by simp)
        have c2 := c1.trans hch2 (by simp)
        have z7 := a2.cell 7
        simp only [List.getElem?_toArray, List.getElem?_cons_zero, List.getElem?_cons_succ] at z7
        clear y5 y6 y7
        cases s2
        · go_wp2_with (fail)
          go_ret
          exact Fin.out false rfl _ c2
        · by_cases hl0 : ls.length = 0
          · have e3 := hl3.out
            rw [decide_eq_true hl0] at e3
            subst e3
            have hli : ((ls.length : Int) == 0) = true := by rw [hl0]; rfl
            have HL0 := Lib.hid hl0
            clear hl0
            go_wp2_with (fail)
            go_ret
            exact Fin.out true rfl _ c2
          · have e3 := hl3.out
            rw [decide_eq_false hl0] at e3
            subst e3
            have hli : ((ls.length : Int) == 0) = false := by rw [beq_eq_false_iff_ne]; omega
            have HL0 := Lib.hid hl0
            clear hl0
            go_wp2_with (fail)
            go_ret
            exact Fin.out false rfl _ c2
    subst efm
    by_cases efc : fc = 0
    rotate_left
    · go_enter Try.func22, Try.ntmps22
      go_wp2_with (fail)
      refine (isStamp_any _ _ _).mono ?_
      rintro e w1 ⟨rfl, hch1⟩
      rw [hs1.out]
      have a1 := a0.keep hch1 (by simp)
      have c1 := h0.trans hch1 (by simp)
      have y5 := a1.cell 5
      have y6 := a1.cell 6
      have y7 := a1.cell 7
      simp only [List.getElem?_toArray, List.getElem?_cons_zero, List.getElem?_cons_succ] at y5 y6 y7
      cases s1
      · go_wp2_with (fail)
        go_ret
        exact Fin.out false rfl _ c1
      · go_wp2_with (fail)
        refine (isStamp_any _ _ _).mono ?_
        rintro e w2 ⟨rfl, hch2⟩
        rw [hs2.out]
        have a2 := a1.keep hch2 (by simp)
        have c2 := c1.trans hch2 (by simp)
        have z7 := a2.cell 7
        simp only [List.getElem?_toArray, List.getElem?_cons_zero, List.getElem?_cons_succ] at z7
        clear y5 y6 y7
        cases s2
        · go_wp2_with (fail)
          go_ret
          exact Fin.out false rfl _ c2
        · by_cases hl0 : ls.length = 0
          · have e3 := hl3.out
            rw [decide_eq_true hl0] at e3
            subst e3
            have hli : ((ls.length : Int) == 0) = true := by rw [hl0]; rfl
            have HL0 := Lib.hid hl0
            clear hl0
            go_wp2_with (fail)
            go_ret
            exact Fin.out true rfl _ c2
          · have e3 := hl3.out
            rw [decide_eq_false hl0] at e3
            subst e3
            have hli : ((ls.length : Int) == 0) = false := by rw [beq_eq_false_iff_ne]; omega
            have HL0 := Lib.hid hl0
            clear hl0
            go_wp2_with (fail)
            go_ret
            exact Fin.out false rfl _ c2
    subst efc
    · go_enter Try.func22, Try.ntmps22
      go_wp2_with (fail)
      refine (isStamp_any _ _ _).mono ?_
      rintro e w1 ⟨rfl, hch1⟩
      rw [hs1.out]
      have a1 := a0.keep hch1 (by simp)
      have c1 := h0.trans hch1 (by simp)
      have y5 := a1.cell 5
      have y6 := a1.cell 6
      have y7 := a1.cell 7
      simp only [List.getElem?_toArray, List.getElem?_cons_zero, List.getElem?_cons_succ] at y5 y6 y7
      cases s1
      · go_wp2_with (fail)
        go_ret
        exact Fin.out false rfl _ c1
      · go_wp2_with (fail)
        refine (isStamp_any _ _ _).mono ?_
        rintro e w2 ⟨rfl, hch2⟩
        rw [hs2.out]
        have a2 := a1.keep hch2 (by simp)
        have c2 := c1.trans hch2 (by simp)
        have z7 := a2.cell 7
        simp only [List.getElem?_toArray, List.getElem?_cons_zero, List.getElem?_cons_succ] at z7
        clear y5 y6 y7
        cases s2
        · go_wp2_with (fail)
          go_ret
          exact Fin.out false rfl _ c2
        · by_cases hl0 : ls.length = 0
          · have e3 := hl3.out
            rw [decide_eq_true hl0] at e3
            subst e3
            have hli : ((ls.length : Int) == 0) = true := by rw [hl0]; rfl
            have HL0 := Lib.hid hl0
            clear hl0
            go_wp2_with (fail)
            go_ret
            exact Fin.out true rfl _ c2
          · have e3 := hl3.out
            rw [decide_eq_false hl0] at e3
            subst e3
            have hli : ((ls.length : Int) == 0) = false := by rw [beq_eq_false_iff_ne]; omega
            have HL0 := Lib.hid hl0
            clear hl0
            go_wp2_with (fail)
            go_ret
            exact Fin.out false rfl _ c2
  by_cases hz : sm = 0 ∧ sc = 0 ∧ fm = 0 ∧ fc = 0
  rotate_left
  · have HNN : nn = false := by rw [← hnn.out]; cases hb : (decide (sm = 0) && decide (sc = 0) && decide (fm = 0) && decide (fc = 0)) with | false => rfl | true => simp only [Bool.and_eq_true, decide_eq_true_eq] at hb; exact absurd ⟨hb.1.1.1, hb.1.1.2, hb.1.2, hb.2⟩ hz
    have HF : Hid (isW ⟨kd, o, q, sm, sc, fm, fc, ls.map RcV.r⟩ = false) := by
      unfold Hid; rw [hIs.out, HNN]; split
      · rfl
      · split
        · rfl
        · first | rfl | rw [if_neg k3]
    have hz1 : sm ≠ 0 ∨ (sm = 0 ∧ (sc ≠ 0 ∨ (sc = 0 ∧ (fm ≠ 0 ∨ (fm = 0 ∧ fc ≠ 0))))) := by omega
    clear hIs hnn hh HNN hz
    have hkk : kd = 1 ∨ kd = 2 ∨ (kd ≠ 1 ∧ kd ≠ 2) := by omega
    rcases hkk with rfl | rfl | ⟨hk1, hk2⟩ <;> rcases hz1 with hz1 | ⟨rfl, hz1 | ⟨rfl, hz1 | ⟨rfl, hz1⟩⟩⟩
    all_goals
      go_enter Try.func22, Try.ntmps22
      go_wp2_with (fail)
      go_ret
      exact ⟨by rw [HF.out]; rfl, h0⟩
  obtain ⟨rfl, rfl, rfl, rfl⟩ := hz
  have HNN : nn = true := by rw [← hnn.out]; rfl
  subst HNN
  clear hnn
  by_cases k1 : kd = 1
  · have HF : Hid (isW ⟨kd, o, q, 0, 0, 0, 0, ls.map RcV.r⟩ = goesW ⟨kd, o, q, 0, 0, 0, 0, ls.map RcV.r⟩) := by unfold Hid; rw [hIs.out, if_pos k1]; rfl
    subst k1
    clear hIs hh
    go_enter Try.func22, Try.ntmps22
    go_wp2_with (fail)
    refine (goes_any _ 1 o q 0 0 0 0 A _ c ls rfl HR.out hls (by omega) (by omega)).mono ?_
    rintro e w1 ⟨rfl, hch1⟩
    obtain ⟨s, hs⟩ : ∃ s, Hid (goesW ⟨1, o, q, 0, 0, 0, 0, ls.map RcV.r⟩ = s) := ⟨_, rfl⟩
    rw [hs.out] at HF ⊢
    go_wp2_with (fail)
    go_ret
    exact ⟨by rw [HF.out]; rfl, h0.trans hch1 (by simp)⟩
  by_cases k2 : kd = 2
  · have HF : Hid (isW ⟨kd, o, q, 0, 0, 0, 0, ls.map RcV.r⟩ = decide (ls.length = 0)) := by unfold Hid; rw [hIs.out, if_neg k1, if_pos k2, Bool.true_and]; exact decide_eq_decide.2 hrs0.out
    subst k2
    clear hIs hh k1 k3 hrs0
    by_cases hl0 : ls.length = 0
    · have HT : Hid (decide (ls.length = 0) = true) := decide_eq_true hl0
      have hli : ((ls.length : Int) == 0) = true := by rw [hl0]; rfl
      have HL0 := Lib.hid hl0
      clear hl0
      go_enter Try.func22, Try.ntmps22
      go_wp2_with (fail)
      go_ret
      exact ⟨by rw [HF.out, HT.out]; rfl, h0⟩
    · have HT : Hid (decide (ls.length = 0) = false) := decide_eq_false hl0
      have hli : ((ls.length : Int) == 0) = false := by rw [beq_eq_false_iff_ne]; omega
      have HL0 := Lib.hid hl0
      clear hl0
      go_enter Try.func22, Try.ntmps22
      go_wp2_with (fail)
      go_ret
      exact ⟨by rw [HF.out, HT.out]; rfl, h0⟩
  · have HF : Hid (isW ⟨kd, o, q, 0, 0, 0, 0, ls.map RcV.r⟩ = false) := by unfold Hid; rw [hIs.out, if_neg k1, if_neg k2, if_neg k3]
    clear hIs hh
    go_enter Try.func22, Try.ntmps22
    go_wp2_with (fail)
    go_ret
    exact ⟨by rw [HF.out]; rfl, h0⟩end Go.Proofs.Ytkdbjhmffnjimaa
namespace Go.Proofs.Ytkdbjhmffnjimaa
open Go.RowKit
set_option linter.unusedVariables false

def EncWPost (w : World) (t : List UInt8 × Nat) (e : Ending) (w' : World) : Prop := ∃ A c, e = .returned (.tuple #[.slice A t.1.length c, .int .i64 t.2]) ∧ NewB w t.1 A c w'
theorem NewB.nil {w w' : World} (h : Chg [] w w') : NewB w [] none 0 w' := ⟨Rd.nil _ _ _, Nat.le_refl _, by simp, h, .inl ⟨rfl, fun h => absurd h (by simp)⟩⟩

theorem bodyW_1 {o q : Int} {sm sc fm fc : Int} {rs : List Rc} : bodyW ⟨1, o, q, sm, sc, fm, fc, rs⟩ = encs ([1, o, q].map clamp) ++ encL rs := by simp [bodyW, numsW]
theorem bodyW_2 {o q : Int} {sm sc fm fc : Int} {rs : List Rc} : bodyW ⟨2, o, q, sm, sc, fm, fc, rs⟩ = encs ([2, o, q].map clamp) := by simp [bodyW, numsW]
theorem bodyW_3 {o q : Int} {sm sc fm fc : Int} {rs : List Rc} : bodyW ⟨3, o, q, sm, sc, fm, fc, rs⟩ = encs ([3, o, q].map clamp) ++ encs ([sm, sc, fm, fc].map clamp) := by simp [bodyW, numsW, stmpW]

set_option maxRecDepth 100000 in
set_option maxHeartbeats 6400000 in
theorem wEncode_any (w : World) (kd o q sm sc fm fc : Int) (A : Option Addr) (n c : Nat) (ls : List RcV) (hn : ls.length = n) (hr : Rd w 9 A ls.length (cRc ls)) (hrs : ∀ x ∈ ls, Rd w 1 x.A x.r.val.length (cB x.r.val)) (hls : ls.length ≤ 1099511627776) :
    Calls Try.prog 10 #[.agg #[.int .i64 kd, .int .i64 o, .int .i64 q, .int .i64 sm, .int .i64 sc, .int .i64 fm, .int .i64 fc, .slice A n c]] w
      (EncWPost w (encW ⟨kd, o, q, sm, sc, fm, fc, ls.map RcV.r⟩)) := by
  subst hn
  have RR := Lib.hid hr
  have RS := Lib.hid hrs
  have HI := Lib.hid (isW_any (w.alloc (.cells #[.int .i64 kd, .int .i64 o, .int .i64 q, .int .i64 sm, .int .i64 sc, .int .i64 fm, .int .i64 fc, .slice A ls.length c] 26)) kd o q sm sc fm fc A _ c ls rfl (hr.alloc _) hls)
  have HK := Lib.hid (fun h => isW_kind (x := ⟨kd, o, q, sm, sc, fm, fc, ls.map RcV.r⟩) h)
  have HL := Lib.hid (fun h => bodyW_len (x := ⟨kd, o, q, sm, sc, fm, fc, ls.map RcV.r⟩) h)
  have h0 := Chg.alloc (.refl [] w) (.cells #[.int .i64 kd, .int .i64 o, .int .i64 q, .int .i64 sm, .int .i64 sc, .int .i64 fm, .int .i64 fc, .slice A ls.length c] 26)
  have a0 := At.new w 26 #[.int .i64 kd, .int .i64 o, .int .i64 q, .int .i64 sm, .int .i64 sc, .int .i64 fm, .int .i64 fc, .slice A ls.length c]
  clear hr hrs
  obtain ⟨s, hs⟩ : ∃ s, Hid (isW ⟨kd, o, q, sm, sc, fm, fc, ls.map RcV.r⟩ = s) := ⟨_, rfl⟩
  rw [hs.out] at HI HK HL
  cases s
  · have HE := Lib.hid (encW_no hs.out)
    go_enter Try.func10, Try.ntmps10
    go_wp2_with (fail)
    refine HI.out.mono ?_
    rintro e w1 ⟨rfl, hch1⟩
    go_wp2_with (fail)
    go_ret2
    rw [HE.out]
    exact ⟨none, 0, rfl, NewB.nil (h0.trans hch1 (by simp))⟩
  have HE := Lib.hid (encW_yes hs.out)
  have hbl := HL.out rfl
  have HK' := HK.out rfl
  simp only at HK'
  clear HK HL
  rcases HK' with ⟨rfl, -, hg⟩ | ⟨rfl, -, -⟩ | ⟨rfl, -, -, -⟩
  · obtain ⟨hgl, hg1, hg64⟩ := goesW_iff.1 hg
    simp only [List.length_map] at hgl hg1 hg64
    have HLI : Hid (lstR (ls.map RcV.r) = (encL (ls.map RcV.r), 0)) := lstR_0 (by simpa using hg64) (fun r hr => isR_iff.2 (goesL_mem hgl r hr))
    rw [bodyW_1] at HE hbl
    clear hg hgl
    obtain ⟨EL, hEL⟩ : ∃ EL, Hid (encL (ls.map RcV.r) = EL) := ⟨_, rfl⟩
    rw [hEL.out] at HE hbl HLI
    go_enter Try.func10, Try.ntmps10
    go_wp2_with (fail)
    refine HI.out.mono ?_
    rintro e w1 ⟨rfl, hch1⟩
    have a1 := a0.keep hch1 (by simp)
    have c1 := h0.trans hch1 (by simp)
    have x0 := a1.cell 0
    have x1 := a1.cell 1
    have x2 := a1.cell 2
    have hlt1 := a1.lt
    simp only [List.getElem?_toArray, List.getElem?_cons_zero, List.getElem?_cons_succ] at x0 x1 x2
    clear HI a0 h0 hch1
    have h1 : All w1 (w1.alloc (.cells #[.slice none 0 0] 55)) [rWr w1.heap.size none 0 []] := (All.start w1).newWr rfl
    go_wp2_with (fail)
    have h2 := h1.quiet ((Chg.refl [] _).alloc (.cells #[.int .i64 1, .int .i64 o, .int .i64 q] 3))
    refine (nums_any w1.heap.size [] _ _ none 0 (some ⟨w1.heap.size + 1, 0, none⟩) 3 [1, o, q] [] (h2.get 0 rfl) (Rd.new' (by simp) rfl rfl) (by simp) (by simp) (Away.at (by simp [blk]))).mono ?_
    rintro e w3 ⟨rfl, A3, c3', hw3⟩
    have h3 := h2.wr hw3
    rw [List.nil_append] at h3
    obtain ⟨NN, hNN⟩ : ∃ NN, Hid (encs ([1, o, q].map clamp) = NN) := ⟨_, rfl⟩
    rw [hNN.out] at h3 HE hbl
    clear hw3 h2 h1 x0 x1 x2
    have a3 := a1.keep h3.chg (by simp)
    have c3 := c1.trans h3.chg (by simp)
    have y0 := a3.cell 0
    have y7 := a3.cell 7
    simp only [List.getElem?_toArray, List.getElem?_cons_zero, List.getElem?_cons_succ] at y0 y7
    go_wp2_with (fail)
    refine (recList_any _ A _ c ls rfl (RR.out.keep0 c3) (fun x hx => (RS.out x hx).keep0 c3) hls).mono ?_
    rintro e w4 ⟨A4, c4, rfl, hown4, hch4⟩
    rw [HLI.out] at hown4 ⊢
    simp only at hown4 ⊢
    have h4 := (h3.row hch4 hown4).front 1 rfl
    have hlE : EL.length ≤ 77000 := by rw [List.length_append] at hbl; omega
    have hlN : NN.length ≤ 77000 := by rw [List.length_append] at hbl; omega
    clear y0 y7 h3 hown4 hch4
    go_wp2_with (fail)
    refine (raw_any w1.heap.size (blk A3) _ _ A3 c3' A4 _ c4 EL NN (h4.get 0 rfl) rfl (Rd.of_own (h4.get 1 rfl)) (by omega) (by omega)).mono ?_
    rintro e w5 ⟨rfl, A5, c5, hw5⟩
    have h5 := h4.wr hw5
    clear hw5 h4
    generalize hP : NN ++ EL = P at *
    go_wp2_with (fail)
    refine (out_any w1.heap.size w5 (blk A5) _ A5 c5 P (h5.get 0 rfl) (by omega)).mono ?_
    rintro e w6 ⟨A6, c6, rfl, hown6, hch6⟩
    have h6 := Lib.hid (Rd.of_own hown6)
    have c6' := (c1.trans h5.chg (by simp)).trans hch6 (by simp)
    clear hown6 hch6 h5
    go_wp2_with (fail)
    refine (frEncode_any _ (some ⟨w6.heap.size, 0, none⟩) 1 1 [⟨A6, c6, P⟩] P (by simp [Hid]) rfl (Rd.new' rfl rfl rfl) (fun r hr => ?_) (by simp) (Nat.le_refl _) (by omega)).mono ?_
    · obtain rfl := List.mem_singleton.1 hr
      exact h6.out.alloc _
    rintro e w7 ⟨A7, c7, rfl, hnb⟩
    go_wp2_with (fail)
    go_ret2
    rw [HE.out]
    exact ⟨A7, c7, rfl, hnb.up (c6'.alloc _)⟩
  · rw [bodyW_2] at HE hbl
    go_enter Try.func10, Try.ntmps10
    go_wp2_with (fail)
    refine HI.out.mono ?_
    rintro e w1 ⟨rfl, hch1⟩
    have a1 := a0.keep hch1 (by simp)
    have c1 := h0.trans hch1 (by simp)
    have x0 := a1.cell 0
    have x1 := a1.cell 1
    have x2 := a1.cell 2
    have hlt1 := a1.lt
    simp only [List.getElem?_toArray, List.getElem?_cons_zero, List.getElem?_cons_succ] at x0 x1 x2
    clear HI a0 h0 hch1
    have h1 : All w1 (w1.alloc (.cells #[.slice none 0 0] 55)) [rWr w1.heap.size none 0 []] := (All.start w1).newWr rfl
    go_wp2_with (fail)
    have h2 := h1.quiet ((Chg.refl [] _).alloc (.cells #[.int .i64 2, .int .i64 o, .int .i64 q] 3))
    refine (nums_any w1.heap.size [] _ _ none 0 (some ⟨w1.heap.size + 1, 0, none⟩) 3 [2, o, q] [] (h2.get 0 rfl) (Rd.new' (by simp) rfl rfl) (by simp) (by simp) (Away.at (by simp [blk]))).mono ?_
    rintro e w3 ⟨rfl, A3, c3', hw3⟩
    have h3 := h2.wr hw3
    rw [List.nil_append] at h3
    obtain ⟨NN, hNN⟩ : ∃ NN, Hid (encs ([2, o, q].map clamp) = NN) := ⟨_, rfl⟩
    rw [hNN.out] at h3 HE hbl
    clear hw3 h2 h1 x0 x1 x2
    have a3 := a1.keep h3.chg (by simp)
    have y0 := a3.cell 0
    simp only [List.getElem?_toArray, List.getElem?_cons_zero] at y0
    generalize hP : NN = P at *
    have h5 := h3
    have A5e : A3 = A3 := rfl
    go_wp2_with (fail)
    refine (out_any w1.heap.size w3 (blk A3) _ A3 c3' P (h5.get 0 rfl) (by omega)).mono ?_
    rintro e w6 ⟨A6, c6, rfl, hown6, hch6⟩
    have h6 := Lib.hid (Rd.of_own hown6)
    have c6' := (c1.trans h5.chg (by simp)).trans hch6 (by simp)
    clear hown6 hch6 h5
    go_wp2_with (fail)
    refine (frEncode_any _ (some ⟨w6.heap.size, 0, none⟩) 1 1 [⟨A6, c6, P⟩] P (by simp [Hid]) rfl (Rd.new' rfl rfl rfl) (fun r hr => ?_) (by simp) (Nat.le_refl _) (by omega)).mono ?_
    · obtain rfl := List.mem_singleton.1 hr
      exact h6.out.alloc _
    rintro e w7 ⟨A7, c7, rfl, hnb⟩
    go_wp2_with (fail)
    go_ret2
    rw [HE.out]
    exact ⟨A7, c7, rfl, hnb.up (c6'.alloc _)⟩
  · rw [bodyW_3] at HE hbl
    go_enter Try.func10, Try.ntmps10
    go_wp2_with (fail)
    refine HI.out.mono ?_
    rintro e w1 ⟨rfl, hch1⟩
    have a1 := a0.keep hch1 (by simp)
    have c1 := h0.trans hch1 (by simp)
    have x0 := a1.cell 0
    have x1 := a1.cell 1
    have x2 := a1.cell 2
    have hlt1 := a1.lt
    simp only [List.getElem?_toArray, List.getElem?_cons_zero, List.getElem?_cons_succ] at x0 x1 x2
    clear HI a0 h0 hch1
    have h1 : All w1 (w1.alloc (.cells #[.slice none 0 0] 55)) [rWr w1.heap.size none 0 []] := (All.start w1).newWr rfl
    go_wp2_with (fail)
    have h2 := h1.quiet ((Chg.refl [] _).alloc (.cells #[.int .i64 3, .int .i64 o, .int .i64 q] 3))
    refine (nums_any w1.heap.size [] _ _ none 0 (some ⟨w1.heap.size + 1, 0, none⟩) 3 [3, o, q] [] (h2.get 0 rfl) (Rd.new' (by simp) rfl rfl) (by simp) (by simp) (Away.at (by simp [blk]))).mono ?_
    rintro e w3 ⟨rfl, A3, c3', hw3⟩
    have h3 := h2.wr hw3
    rw [List.nil_append] at h3
    obtain ⟨NN, hNN⟩ : ∃ NN, Hid (encs ([3, o, q].map clamp) = NN) := ⟨_, rfl⟩
    rw [hNN.out] at h3 HE hbl
    clear hw3 h2 h1 x0 x1 x2
    have a3 := a1.keep h3.chg (by simp)
    have y0 := a3.cell 0
    have y3 := a3.cell 3
    have y4 := a3.cell 4
    have y5 := a3.cell 5
    have y6 := a3.cell 6
    simp only [List.getElem?_toArray, List.getElem?_cons_zero, List.getElem?_cons_succ] at y0 y3 y4 y5 y6
    go_wp2_with (fail)
    have h4 := h3.quiet ((Chg.refl [] _).alloc (.cells #[.int .i64 sm, .int .i64 sc, .int .i64 fm, .int .i64 fc] 3))
    have hlN : NN.length ≤ 77000 := by rw [List.length_append] at hbl; omega
    have zB := (h3.rng 0 rfl w1.heap.size (by simp [rWr])).2
    refine (nums_any w1.heap.size (blk A3) _ _ A3 c3' (some ⟨w3.heap.size, 0, none⟩) 4 [sm, sc, fm, fc] NN (h4.get 0 rfl) (Rd.new' rfl rfl rfl) (by simp) (by omega) (Away.at (fun hx => ?_))).mono ?_
    · have := (h3.rng 0 rfl _ hx).2
      omega
    rintro e w5 ⟨rfl, A5, c5, hw5⟩
    have h5 := h4.wr hw5
    clear hw5 h4 h3 y0 y3 y4 y5 y6
    generalize hP : NN ++ encs ([sm, sc, fm, fc].map clamp) = P at *
    go_wp2_with (fail)
    refine (out_any w1.heap.size w5 (blk A5) _ A5 c5 P (h5.get 0 rfl) (by omega)).mono ?_
    rintro e w6 ⟨A6, c6, rfl, hown6, hch6⟩
    have h6 := Lib.hid (Rd.of_own hown6)
    have c6' := (c1.trans h5.chg (by simp)).trans hch6 (by simp)
    clear hown6 hch6 h5
    go_wp2_with (fail)
    refine (frEncode_any _ (some ⟨w6.heap.size, 0, none⟩) 1 1 [⟨A6, c6, P⟩] P (by simp [Hid]) rfl (Rd.new' rfl rfl rfl) (fun r hr => ?_) (by simp) (Nat.le_refl _) (by omega)).mono ?_
    · obtain rfl := List.mem_singleton.1 hr
      exact h6.out.alloc _
    rintro e w7 ⟨A7, c7, rfl, hnb⟩
    go_wp2_with (fail)
    go_ret2
    rw [HE.out]
    exact ⟨A7, c7, rfl, hnb.up (c6'.alloc _)⟩
end Go.Proofs.Ytkdbjhmffnjimaa
namespace Go.Proofs.Ytkdbjhmffnjimaa
open Go.RowKit
set_option linter.unusedVariables false

def DecWPost (w : World) (t : Wd × Nat) (e : Ending) (w' : World) : Prop := ∃ x : WdV, e = .returned (.tuple #[.agg x.cells.toArray, .int .i64 (t.2 : Nat)]) ∧ x.d = t.1 ∧
  w'.ownsRow w.heap.size 50 9 (.slice x.A x.ls.length x.cp) x.ls.length (cRc x.ls) ∧ (∀ r ∈ x.ls, OwnV w' w.heap.size r) ∧ Chg [] w w'
theorem wd_size : (Try.prog.info? 26).map (·.size) = some 8 := by kernel_rfl
/-- A word and something else are handed back. -/
theorem ret_wd2 {fn : Func} {p q : Tmp} {tmps : Array Value} {w : World} {g : Nat} {T : TypeId} {cs : Array Value} {v : Value} {Post : Ending → World → Prop} (hs : cs.size = 8) (h : fn.results = #[.cell p 26, .tmp q])
    (hp : tmps.getD p undef = .pointer (some ⟨g, 0, none⟩)) (hq : tmps.getD q undef = v) (hg : At w g T cs) (hpost : Post (.returned (.tuple #[.agg cs, v])) w) :
    bodyPost Try.prog fn Post Exit.ret ⟨tmps, []⟩ w := by
  refine bodyPost_ret (v := .tuple #[.agg cs, v]) ?_ rfl hpost
  have hp' : tmps[p]?.getD undef = .pointer (some ⟨g, 0, none⟩) := by simpa using hp
  have hq' : tmps[q]?.getD undef = v := by simpa using hq
  simp [results, h, hp', hq', asAddr, run_loadVar_row w g T 26 _ (0, 0) _ hg Try.underlying26 rfl (wd_size.trans (by rw [hs]))]
theorem At.set8 {w : World} {g : Nat} {t : TypeId} {v0 v1 v2 v3 v4 v5 v6 v7 : Value} (h : At w g t #[v0, v1, v2, v3, v4, v5, v6, v7]) (u0 u1 u2 u3 u4 u5 u6 u7 : Value) : At ((((((((w.setCell ⟨g, 0, none⟩ u0).setCell ⟨g, 1, none⟩ u1).setCell ⟨g, 2, none⟩ u2).setCell ⟨g, 3, none⟩ u3).setCell ⟨g, 4, none⟩ u4).setCell ⟨g, 5, none⟩ u5).setCell ⟨g, 6, none⟩ u6).setCell ⟨g, 7, none⟩ u7) g t #[u0, u1, u2, u3, u4, u5, u6, u7] := by
  simpa using (((((((h.set_ 0 u0).set_ 1 u1).set_ 2 u2).set_ 3 u3).set_ 4 u4).set_ 5 u5).set_ 6 u6).set_ 7 u7
theorem Chg.set8 {S : List Nat} {a w : World} (h : Chg S a w) {g : Nat} (hg : g ∈ S ∨ a.heap.size ≤ g) (u0 u1 u2 u3 u4 u5 u6 u7 : Value) : Chg S a ((((((((w.setCell ⟨g, 0, none⟩ u0).setCell ⟨g, 1, none⟩ u1).setCell ⟨g, 2, none⟩ u2).setCell ⟨g, 3, none⟩ u3).setCell ⟨g, 4, none⟩ u4).setCell ⟨g, 5, none⟩ u5).setCell ⟨g, 6, none⟩ u6).setCell ⟨g, 7, none⟩ u7) :=
  (((((((h.setCell (p := ⟨g, 0, none⟩) hg u0).setCell (p := ⟨g, 1, none⟩) hg u1).setCell (p := ⟨g, 2, none⟩) hg u2).setCell (p := ⟨g, 3, none⟩) hg u3).setCell (p := ⟨g, 4, none⟩) hg u4).setCell (p := ⟨g, 5, none⟩) hg u5).setCell (p := ⟨g, 6, none⟩) hg u6).setCell (p := ⟨g, 7, none⟩) hg u7
theorem DecWPost.no {w w' : World} {t : Wd × Nat} (n : Nat) (ht : t = (Wd.z, n)) (h : Chg [] w w') : DecWPost w t (.returned (.tuple #[.agg #[.int .i64 0, .int .i64 0, .int .i64 0, .int .i64 0, .int .i64 0, .int .i64 0, .int .i64 0, .slice none 0 0], .int .i64 n])) w' := by
  subst ht
  exact ⟨⟨0, 0, 0, 0, 0, 0, 0, none, [], 0⟩, rfl, rfl, own_none _ _ _ _, by simp, h⟩
theorem DecWPost.yes {w w' : World} {t : Wd × Nat} (x : WdV) {cs : Array Value} (hcs : cs = x.cells.toArray) (ht : t = (x.d, 0)) (ho : w'.ownsRow w.heap.size 50 9 (.slice x.A x.ls.length x.cp) x.ls.length (cRc x.ls)) (hv : ∀ r ∈ x.ls, OwnV w' w.heap.size r) (h : Chg [] w w') : DecWPost w t (.returned (.tuple #[.agg cs, .int .i64 0])) w' := by
  subst ht hcs
  exact ⟨x, rfl, rfl, ho, hv, h⟩
theorem oneF_len {L : List UInt8} : (oneF L).1.length ≤ 262144 := by
  by_cases he : (decF L).e = 0
  · by_cases hn : (decF L).n = L.length
    · rw [oneF_0 he hn]; have := decF_zero he; simp only; omega
    · rw [oneF_3 he hn]; simp
  · rw [oneF_e he]; simp
theorem decW_e {L : List UInt8} (h : (oneF L).2 ≠ 0) : decW L = (Wd.z, (oneF L).2) := by unfold decW; rw [if_pos h]
theorem decW_3 {L : List UInt8} (h : (oneF L).2 = 0) {x : Wd} {b : Bool} (hx : readW (oneF L).1 = (x, b)) (hn : (b && isW x) = false) : decW L = (Wd.z, 3) := by
  unfold decW; rw [if_neg (by simpa using h), hx]; simp only [hn]; rfl
theorem decW_0 {L : List UInt8} (h : (oneF L).2 = 0) {x : Wd} (hx : readW (oneF L).1 = (x, true)) (hn : isW x = true) : decW L = (x, 0) ∧ encF (bodyW x) = L := by
  constructor
  · unfold decW; rw [if_neg (by simpa using h), hx]; simp only [hn]; rfl
  · have h1 := readW_good (p := (oneF L).1) (by rw [hx]) (by rw [hx]; exact hn)
    rw [hx] at h1
    simp only at h1
    rw [h1]
    exact (oneF_good h).symm
theorem takeRaw_all (X : List UInt8) (b : Bool) : takeRaw X b (X.length : Int) = (X, [], b) := by
  unfold takeRaw
  rw [if_pos ⟨by omega, by omega⟩]
  simp
theorem readW_1 {p : List UInt8} {o q : Nat} {X : List UInt8} {b : Bool} (h0 : numAt p false 0 = 1) (h1 : numAt p false 1 = o) (h2 : numAt p false 2 = q) (h3 : numsSt p false 3 = (X, b)) : readW p = (⟨1, o, q, 0, 0, 0, 0, (decL X).getD []⟩, !b && (decL X).isSome) := by
  unfold readW; rw [if_pos h0, h1, h2, h3]
theorem readW_3 {p : List UInt8} {o q : Nat} {X : List UInt8} {b : Bool} (h0 : numAt p false 0 = 3) (h1 : numAt p false 1 = o) (h2 : numAt p false 2 = q) (h3 : numsSt p false 3 = (X, b)) : readW p = (⟨3, o, q, numAt X b 0, numAt X b 1, numAt X b 2, numAt X b 3, []⟩, !(numsSt X b 4).2 && decide ((numsSt X b 4).1 = [])) := by
  unfold readW; rw [if_neg (by omega), if_pos h0, h1, h2, h3]
theorem readW_2 {p : List UInt8} {k o q : Nat} {X : List UInt8} {b : Bool} (h0 : numAt p false 0 = k) (h1 : numAt p false 1 = o) (h2 : numAt p false 2 = q) (h3 : numsSt p false 3 = (X, b)) (hk1 : k ≠ 1) (hk3 : k ≠ 3) : readW p = (⟨k, o, q, 0, 0, 0, 0, []⟩, !b && decide (X = [])) := by
  unfold readW; rw [if_neg (by omega), if_neg (by omega), h0, h1, h2, h3]

set_option maxRecDepth 100000 in
set_option maxHeartbeats 12800000 in
theorem wDecode_any (w : World) (A : Option Addr) (n c : Nat) (L : List UInt8) (hn : L.length = n) (hr : Rd w 1 A L.length (cB L)) (hc : L.length ≤ c) (hl : L.length ≤ 1099511627776) :
    Calls Try.prog 15 #[.slice A n c] w (DecWPost w (decW L)) := by
  subst hn
  have HR := Lib.hid hr
  clear hr
  have H1 := Lib.hid (frOne_any (w.alloc (.cells #[.int .i64 0, .int .i64 0, .int .i64 0, .int .i64 0, .int .i64 0, .int .i64 0, .int .i64 0, .slice none 0 0] 26)) A _ c L rfl (HR.out.alloc _) hc hl)
  have HE := Lib.hid (fun h => decW_e (L := L) h)
  have H3 := Lib.hid (fun h x b hx hn => decW_3 (L := L) h (x := x) (b := b) hx hn)
  have H0 := Lib.hid (fun h x hx hn => decW_0 (L := L) h (x := x) hx hn)
  have hpl := oneF_len (L := L)
  obtain ⟨t, ht⟩ : ∃ t, Hid (oneF L = t) := ⟨_, rfl⟩
  rw [ht.out] at H1 HE H3 H0 hpl
  obtain ⟨p, z⟩ := t
  simp only at H1 HE H3 H0 hpl
  clear ht
  have h0 := Chg.alloc (.refl [] w) (.cells #[.int .i64 0, .int .i64 0, .int .i64 0, .int .i64 0, .int .i64 0, .int .i64 0, .int .i64 0, .slice none 0 0] 26)
  have g0 := At.new w 26 #[.int .i64 0, .int .i64 0, .int .i64 0, .int .i64 0, .int .i64 0, .int .i64 0, .int .i64 0, .slice none 0 0]
  go_enter Try.func15, Try.ntmps15
  go_wp2_with (fail)
  refine H1.out.mono ?_
  rintro e w1 ⟨A1, c1, rfl, hown1, hch1⟩
  simp only at hown1 ⊢
  have g1 := g0.keep hch1 (by simp)
  have hc1 := h0.trans hch1 (by simp)
  have hg1 := g1.lt
  clear H1 h0 g0
  by_cases hz : z = 0
  rotate_left
  · have hzb : ((z : Int) != 0) = true := by rw [bne_iff_ne]; omega
    have HEz := Lib.hid (HE.out hz)
    have y0 := g1.cell 0
    have y1 := g1.cell 1
    have y2 := g1.cell 2
    have y3 := g1.cell 3
    have y4 := g1.cell 4
    have y5 := g1.cell 5
    have y6 := g1.cell 6
    have y7 := g1.cell 7
    have f0 := g1.free 0
    have f1 := g1.free 1
    have f2 := g1.free 2
    have f3 := g1.free 3
    have f4 := g1.free 4
    have f5 := g1.free 5
    have f6 := g1.free 6
    have f7 := g1.free 7
    simp only [List.getElem?_toArray, List.getElem?_cons_zero, List.getElem?_cons_succ] at y0 y1 y2 y3 y4 y5 y6 y7
    clear hz HE
    go_wp2_with (fail)
    refine ret_wd2 (g := w.heap.size) (T := 26) rfl Try.results15 rfl rfl (At.set8 g1 (.int .i64 0) (.int .i64 0) (.int .i64 0) (.int .i64 0) (.int .i64 0) (.int .i64 0) (.int .i64 0) (.slice none 0 0)) ?_
    exact DecWPost.no z HEz.out (Chg.set8 hc1 (.inr (Nat.le_refl _)) (.int .i64 0) (.int .i64 0) (.int .i64 0) (.int .i64 0) (.int .i64 0) (.int .i64 0) (.int .i64 0) (.slice none 0 0))
  have hzb : ((z : Int) != 0) = false := by rw [hz]; rfl
  have Hz := Lib.hid hz
  clear hz HE
  -- the word that is read into; the reader
  have hrp := (Rd.of_own hown1).alloc (.cells #[.int .i64 0, .int .i64 0, .int .i64 0, .int .i64 0, .int .i64 0, .int .i64 0, .int .i64 0, .slice none 0 0] 26)
  have g1' := g1.al (.cells #[.int .i64 0, .int .i64 0, .int .i64 0, .int .i64 0, .int .i64 0, .int .i64 0, .int .i64 0, .slice none 0 0] 26)
  have a1 := At.new w1 26 #[.int .i64 0, .int .i64 0, .int .i64 0, .int .i64 0, .int .i64 0, .int .i64 0, .int .i64 0, .slice none 0 0]
  have hc1' := hc1.alloc (.cells #[.int .i64 0, .int .i64 0, .int .i64 0, .int .i64 0, .int .i64 0, .int .i64 0, .int .i64 0, .slice none 0 0] 26)
  go_wp2_with (fail)
  refine (newReader_any _ A1 _ c1 p rfl hrp (by omega)).mono ?_
  rintro e w4 ⟨B, S, A4, c4, rfl, k4, hch4, hB, hS, hnd⟩
  have g4 := g1'.keep hch4 (by simp)
  have a4 := a1.keep hch4 (by simp)
  have hc4 := hc1'.trans hch4 (by simp)
  simp at hB
  have hS' : Hid (∀ k ∈ S, w1.heap.size + 1 ≤ k ∧ k < w4.heap.size) := fun k hk => by have := hS k hk; simp at this; exact this
  have hB4 := k4.at_.lt
  obtain ⟨x0, h0'⟩ : ∃ x, Hid (numAt p false 0 = x) := ⟨_, rfl⟩
  obtain ⟨x1, h1'⟩ : ∃ x, Hid (numAt p false 1 = x) := ⟨_, rfl⟩
  obtain ⟨x2, h2'⟩ : ∃ x, Hid (numAt p false 2 = x) := ⟨_, rfl⟩
  have hxl := numsSt_len p false 3
  obtain ⟨⟨X, b⟩, h3'⟩ : ∃ x, Hid (numsSt p false 3 = x) := ⟨_, rfl⟩
  rw [h3'.out] at hxl
  simp only at hxl
  clear hown1 hch1 g1 hc1 hrp g1' a1 hc1' hch4 hS
  go_wp2_with (fail)
  have q5 := (Chg.refl [] w4).alloc (.cells #[.pointer (some ⟨w1.heap.size, 0, none⟩), .pointer (some ⟨w1.heap.size, 1, none⟩), .pointer (some ⟨w1.heap.size, 2, none⟩)] 69)
  refine (rnums_any B S [w1.heap.size] w4 _ A4 c4 p false (k4.keep0 q5) (by omega) (some ⟨w4.heap.size, 0, none⟩) 3 3 [some ⟨w1.heap.size, 0, none⟩, some ⟨w1.heap.size, 1, none⟩, some ⟨w1.heap.size, 2, none⟩] rfl ?_ (by simp) ?_ ?_ ?_
    (fun j w1' => At w1' w1.heap.size 26 #[.int .i64 (if 0 < j then (numAt p false 0 : Int) else 0), .int .i64 (if 1 < j then (numAt p false 1 : Int) else 0), .int .i64 (if 2 < j then (numAt p false 2 : Int) else 0), .int .i64 0, .int .i64 0, .int .i64 0, .int .i64 0, .slice none 0 0]) ?_ ?_ ?_ ?_).mono ?_
  · exact Rd.new' rfl rfl rfl
  · refine Away.at (fun hx => ?_)
    simp only [List.mem_cons, List.not_mem_nil, or_false] at hx
    omega
  · intro k hk
    obtain rfl := List.mem_singleton.1 hk
    exact ⟨by omega, fun hm => by have := hS'.out _ hm; omega⟩
  · intro ad hx
    simp only [List.mem_cons, List.not_mem_nil, or_false, Option.some.injEq] at hx
    rcases hx with rfl | rfl | rfl <;> simp
  · exact a4.al _
  · intro j w1' w2' hI hc
    exact hI.keep hc (by simp; omega)
  · intro j w1' hj hI
    rcases j with _ | _ | _ | j <;> simp at hj
  · intro j w1' ad hj hI
    rcases j with _ | _ | _ | j
    · obtain rfl : (⟨w1.heap.size, 0, none⟩ : Addr) = ad := by simpa using hj
      refine ⟨⟨_, (hI.cell 0).trans rfl⟩, hI.free 0, ?_⟩
      simpa using hI.set_ 0 _
    · obtain rfl : (⟨w1.heap.size, 1, none⟩ : Addr) = ad := by simpa using hj
      refine ⟨⟨_, (hI.cell 1).trans rfl⟩, hI.free 1, ?_⟩
      simpa using hI.set_ 1 (.int .i64 (numAt p false 1))
    · obtain rfl : (⟨w1.heap.size, 2, none⟩ : Addr) = ad := by simpa using hj
      refine ⟨⟨_, (hI.cell 2).trans rfl⟩, hI.free 2, ?_⟩
      simpa using hI.set_ 2 (.int .i64 (numAt p false 2))
    · simp at hj
  rintro e w6 ⟨rfl, a6, hch6, A6, c6, r6⟩
  have r6' : RrG 100 w6 B S w6 A6 c6 X b := by
    have h := r6
    simp only [List.length_cons, List.length_nil, Nat.zero_add, Nat.reduceAdd, h3'.out] at h
    exact h
  have a6' : At w6 w1.heap.size 26 #[.int .i64 (x0 : Int), .int .i64 (x1 : Int), .int .i64 (x2 : Int), .int .i64 0, .int .i64 0, .int .i64 0, .int .i64 0, .slice none 0 0] := by
    simpa [h0'.out, h1'.out, h2'.out] using a6
  have g6 := (g4.al (.cells #[.pointer (some ⟨w1.heap.size, 0, none⟩), .pointer (some ⟨w1.heap.size, 1, none⟩), .pointer (some ⟨w1.heap.size, 2, none⟩)] 69)).keep hch6 (by simp; omega)
  have hc6 : Chg [] w w6 := (hc4.t0 q5).trans hch6 (by intro x hx; simp only [List.mem_cons, List.not_mem_nil, or_false] at hx; omega)
  have hU : Hid (∀ k ∈ ([w1.heap.size, w.heap.size] : List Nat), k ≠ B ∧ k ∉ S) := fun k hk => by
    simp only [List.mem_cons, List.not_mem_nil, or_false] at hk
    exact ⟨by omega, fun hm => by have := hS'.out k hm; omega⟩
  have hs6 : w4.heap.size ≤ w6.heap.size := by have h1 := hch6.size; simp at h1; omega
  clear a4 a6 r6 k4 g4 q5 hch6 hc4 hnd
  have v0 := a6'.cell 0
  have v1 := a6'.cell 1
  have v2 := a6'.cell 2
  simp only [List.getElem?_toArray, List.getElem?_cons_zero, List.getElem?_cons_succ] at v0 v1 v2
  by_cases hk1 : x0 = 1
  · have hb1 : ((x0 : Int) == 1) = true := by rw [hk1]; rfl
    have HRW := Lib.hid (readW_1 (h0'.out.trans hk1) h1'.out h2'.out h3'.out)
    subst hk1
    clear h0' h1' h2' h3'
    go_wp2_with (fail)
    refine (left_any B S w6 w6 A6 c6 X b r6').mono ?_
    rintro e w7 ⟨rfl, rfl⟩
    go_wp2_with (fail)
    refine (rraw_any B S w6 _ A6 c6 X b (X.length : Int) r6' (by omega)).mono ?_
    rw [takeRaw_all]
    rintro e w7 ⟨A7, c7, rfl, hown7, A8, c8, r7⟩
    simp only at hown7 r7 ⊢
    have g7 := g6.keep r7.chg (by simp; omega)
    have a7 := a6'.keep r7.chg (by simp; omega)
    have hc7 : Chg [] w w7 := hc6.trans r7.chg (by simp; omega)
    have hs7 := r7.chg.size
    have r7' := r7.here
    have HD := Lib.hid (recReadList_any w7 A7 _ c7 X rfl (Rd.of_own hown7) (by omega))
    unfold RListPost at HD
    obtain ⟨od, hod⟩ : ∃ od, Hid (decL X = od) := ⟨_, rfl⟩
    rw [hod.out] at HD HRW
    clear g6 a6' hc6 r6' r7 hown7 v0 v1 v2
    go_wp2_with (fail)
    refine HD.out.mono ?_
    rintro e w8 ⟨A9, c9, lr, rfl, hlr, hown9, hO9, hch8⟩
    have g8 := g7.keep hch8 (by simp)
    have a8 := a7.keep hch8 (by simp)
    have r8 := r7'.stay hch8 (by simp)
    have hc8 := hc7.trans hch8 (by simp)
    have hs8 := hch8.size
    have y0 := a8.cell 0
    have y1 := a8.cell 1
    have y2 := a8.cell 2
    have y3 := a8.cell 3
    have y4 := a8.cell 4
    have y5 := a8.cell 5
    have y6 := a8.cell 6
    have y7 := a8.cell 7
    have f7 := a8.free 7
    simp only [List.getElem?_toArray, List.getElem?_cons_zero, List.getElem?_cons_succ] at y0 y1 y2 y3 y4 y5 y6 y7
    rw [← hlr] at HRW
    have HLR := Lib.hid hlr
    clear HD hlr g7 a7 r7' hc7 hch8
    have q9 : Chg [w1.heap.size] w8 (w8.setCell ⟨w1.heap.size, 7, none⟩ (.slice A9 lr.length c9)) := (Chg.refl _ _).setCell (.inl (by simp)) _
    have aT : At (w8.setCell ⟨w1.heap.size, 7, none⟩ (.slice A9 lr.length c9)) w1.heap.size 26 #[.int .i64 1, .int .i64 (x1 : Int), .int .i64 (x2 : Int), .int .i64 0, .int .i64 0, .int .i64 0, .int .i64 0, .slice A9 lr.length c9] := by simpa using a8.set_ 7 (.slice A9 lr.length c9)
    have gT := g8.keep q9 (by simp; omega)
    have rT := r8.stay q9 (fun k hk => hU.out k (by simp at hk; simp [hk]))
    have hcT : Chg [] w (w8.setCell ⟨w1.heap.size, 7, none⟩ (.slice A9 lr.length c9)) := hc8.trans q9 (by simp; omega)
    have oT : (w8.setCell ⟨w1.heap.size, 7, none⟩ (.slice A9 lr.length c9)).ownsRow (w1.heap.size + 1) 50 9 (.slice A9 lr.length c9) lr.length (cRc lr) := own_up (own_keep hown9 q9 (fun k hk hm => by have := (hown9.lt k hk).1; simp at hm; omega)) (by omega)
    have OT : Hid (∀ x ∈ lr, OwnV (w8.setCell ⟨w1.heap.size, 7, none⟩ (.slice A9 lr.length c9)) (w1.heap.size + 1) x) := fun x hx => own_up (own_keep (hO9 x hx) q9 (fun k hk hm => by have := ((hO9 x hx).lt k hk).1; simp at hm; omega)) (by omega)
    have hsT : w8.heap.size = (w8.setCell ⟨w1.heap.size, 7, none⟩ (.slice A9 lr.length c9)).heap.size := by simp [World.setCell]
    clear g8 a8 r8 hc8 hown9 hO9 q9
    have hlr64 : lr.length ≤ 64 := by
      have h := congrArg List.length HLR.out
      simp only [List.length_map] at h
      rw [h]
      cases od with
      | none => simp
      | some l => exact (decL_good (hod.out)).2.1
    cases od with
    | none =>
      go_wp2_with (fail)
      clear y0 y1 y2 y3 y4 y5 y6 y7 f7
      generalize w8.setCell ⟨w1.heap.size, 7, none⟩ (.slice A9 lr.length c9) = wT at *
      have HRN : Hid (∀ y : Bool, ((!b && (none : Option (List Rc)).isSome) && y) = false) := by intro y; cases b <;> rfl
      refine (wEncode_any wT 1 (x1 : Int) (x2 : Int) 0 0 0 0 A9 _ c9 lr rfl (Rd.of_own oT) (fun x hx => Rd.of_own (OT.out x hx)) (by first | omega | simp)).mono ?_
      rintro e w10 ⟨A10, c10, rfl, hnb⟩
      obtain ⟨s, hs⟩ : ∃ s, Hid (isW ⟨1, (x1 : Int), (x2 : Int), 0, 0, 0, 0, lr.map RcV.r⟩ = s) := ⟨_, rfl⟩
      have hn4 := hnb.2.2.2.1
      have g10 := gT.keep hn4 (by simp)
      have a10 := aT.keep hn4 (by simp)
      have r10 := rT.stay hn4 (by simp)
      have hc10 := hcT.trans hn4 (by simp)
      have o10 := own_k0 oT hn4
      have O10 : Hid (∀ x ∈ lr, OwnV w10 (w1.heap.size + 1) x) := fun x hx => own_k0 (OT.out x hx) hn4
      have n10 := hnb.1
      clear hnb hn4 gT aT rT hcT oT OT
      have y0 := g10.cell 0
      have y1 := g10.cell 1
      have y2 := g10.cell 2
      have y3 := g10.cell 3
      have y4 := g10.cell 4
      have y5 := g10.cell 5
      have y6 := g10.cell 6
      have y7 := g10.cell 7
      have f0 := g10.free 0
      have f1 := g10.free 1
      have f2 := g10.free 2
      have f3 := g10.free 3
      have f4 := g10.free 4
      have f5 := g10.free 5
      have f6 := g10.free 6
      have f7 := g10.free 7
      simp only [List.getElem?_toArray, List.getElem?_cons_zero, List.getElem?_cons_succ] at y0 y1 y2 y3 y4 y5 y6 y7
      go_wp2_with (fail)
      refine ret_wd2 (g := w.heap.size) (T := 26) rfl Try.results15 rfl rfl (At.set8 g10 (.int .i64 0) (.int .i64 0) (.int .i64 0) (.int .i64 0) (.int .i64 0) (.int .i64 0) (.int .i64 0) (.slice none 0 0)) ?_
      exact DecWPost.no 3 (H3.out Hz.out _ _ HRW.out (HRN.out _)) (Chg.set8 hc10 (.inr (Nat.le_refl _)) (.int .i64 0) (.int .i64 0) (.int .i64 0) (.int .i64 0) (.int .i64 0) (.int .i64 0) (.int .i64 0) (.slice none 0 0))
    | some l =>
      go_wp2_with (fail)
      clear y0 y1 y2 y3 y4 y5 y6 y7 f7
      generalize w8.setCell ⟨w1.heap.size, 7, none⟩ (.slice A9 lr.length c9) = wT at *
      have HRB : Hid ((!b && (some l : Option (List Rc)).isSome) = (!b && decide (([] : List UInt8) = []))) := by unfold Hid; simp
      refine (wEncode_any wT 1 (x1 : Int) (x2 : Int) 0 0 0 0 A9 _ c9 lr rfl (Rd.of_own oT) (fun x hx => Rd.of_own (OT.out x hx)) (by first | omega | simp)).mono ?_
      rintro e w10 ⟨A10, c10, rfl, hnb⟩
      obtain ⟨s, hs⟩ : ∃ s, Hid (isW ⟨1, (x1 : Int), (x2 : Int), 0, 0, 0, 0, lr.map RcV.r⟩ = s) := ⟨_, rfl⟩
      have hn4 := hnb.2.2.2.1
      have g10 := gT.keep hn4 (by simp)
      have a10 := aT.keep hn4 (by simp)
      have r10 := rT.stay hn4 (by simp)
      have hc10 := hcT.trans hn4 (by simp)
      have o10 := own_k0 oT hn4
      have O10 : Hid (∀ x ∈ lr, OwnV w10 (w1.heap.size + 1) x) := fun x hx => own_k0 (OT.out x hx) hn4
      have n10 := hnb.1
      clear hnb hn4 gT aT rT hcT oT OT
      have y0 := g10.cell 0
      have y1 := g10.cell 1
      have y2 := g10.cell 2
      have y3 := g10.cell 3
      have y4 := g10.cell 4
      have y5 := g10.cell 5
      have y6 := g10.cell 6
      have y7 := g10.cell 7
      have f0 := g10.free 0
      have f1 := g10.free 1
      have f2 := g10.free 2
      have f3 := g10.free 3
      have f4 := g10.free 4
      have f5 := g10.free 5
      have f6 := g10.free 6
      have f7 := g10.free 7
      simp only [List.getElem?_toArray, List.getElem?_cons_zero, List.getElem?_cons_succ] at y0 y1 y2 y3 y4 y5 y6 y7
      cases s
      · rw [encW_no hs.out]
        have HT := Lib.hid (H3.out Hz.out _ _ HRW.out (by rw [hs.out, Bool.and_false]))
        go_wp2_with (fail)
        refine ret_wd2 (g := w.heap.size) (T := 26) rfl Try.results15 rfl rfl (At.set8 g10 (.int .i64 0) (.int .i64 0) (.int .i64 0) (.int .i64 0) (.int .i64 0) (.int .i64 0) (.int .i64 0) (.slice none 0 0)) ?_
        exact DecWPost.no 3 (HT.out) (Chg.set8 hc10 (.inr (Nat.le_refl _)) (.int .i64 0) (.int .i64 0) (.int .i64 0) (.int .i64 0) (.int .i64 0) (.int .i64 0) (.int .i64 0) (.slice none 0 0))
      · rw [encW_yes hs.out] at n10 ⊢
        simp only at n10 ⊢
        go_wp2_with (fail)
        refine (whole_any B S _ w10 _ _ [] b r10).mono ?_
        rintro e w11 ⟨rfl, rfl⟩
        obtain ⟨wh, hwh⟩ : ∃ wh, Hid ((!b && decide (([] : List UInt8) = [])) = wh) := ⟨_, rfl⟩
        have HRX : Hid (readW p = (⟨1, (x1 : Int), (x2 : Int), 0, 0, 0, 0, lr.map RcV.r⟩, wh)) := by unfold Hid; rw [HRW.out, ← hwh.out]; simp
        rw [hwh.out]
        cases wh
        · have HT := Lib.hid (H3.out Hz.out _ _ HRX.out rfl)
          go_wp2_with (fail)
          refine ret_wd2 (g := w.heap.size) (T := 26) rfl Try.results15 rfl rfl (At.set8 g10 (.int .i64 0) (.int .i64 0) (.int .i64 0) (.int .i64 0) (.int .i64 0) (.int .i64 0) (.int .i64 0) (.slice none 0 0)) ?_
          exact DecWPost.no 3 (HT.out) (Chg.set8 hc10 (.inr (Nat.le_refl _)) (.int .i64 0) (.int .i64 0) (.int .i64 0) (.int .i64 0) (.int .i64 0) (.int .i64 0) (.int .i64 0) (.slice none 0 0))
        · obtain ⟨hd0, hd1⟩ := H0.out Hz.out _ HRX.out hs.out
          rw [hd1] at n10 ⊢
          have HD0 := Lib.hid hd0
          clear hd0 hd1
          go_wp2_with (fail)
          refine (equal_any w10 A10 A _ _ c10 c L L rfl rfl n10 (HR.out.keep0 hc10)).mono ?_
          rintro e w11 ⟨rfl, rfl⟩
          rw [decide_eq_true (rfl : L = L)]
          have u0 := a10.cell 0
          have u1 := a10.cell 1
          have u2 := a10.cell 2
          have u3 := a10.cell 3
          have u4 := a10.cell 4
          have u5 := a10.cell 5
          have u6 := a10.cell 6
          have u7 := a10.cell 7
          simp only [List.getElem?_toArray, List.getElem?_cons_zero, List.getElem?_cons_succ] at u0 u1 u2 u3 u4 u5 u6 u7
          go_wp2_with (fail)
          refine ret_wd2 (g := w.heap.size) (T := 26) rfl Try.results15 rfl rfl (At.set8 g10 (.int .i64 1) (.int .i64 (x1 : Int)) (.int .i64 (x2 : Int)) (.int .i64 0) (.int .i64 0) (.int .i64 0) (.int .i64 0) (.slice A9 lr.length c9)) ?_
          have qq : Chg [w.heap.size] w10 _ := Chg.set8 (g := w.heap.size) (Chg.refl [w.heap.size] w10) (.inl (by simp)) (.int .i64 1) (.int .i64 (x1 : Int)) (.int .i64 (x2 : Int)) (.int .i64 0) (.int .i64 0) (.int .i64 0) (.int .i64 0) (.slice A9 lr.length c9)
          refine DecWPost.yes ⟨1, (x1 : Int), (x2 : Int), 0, 0, 0, 0, A9, lr, c9⟩ rfl HD0.out ?_ ?_ (Chg.set8 hc10 (.inr (Nat.le_refl _)) (.int .i64 1) (.int .i64 (x1 : Int)) (.int .i64 (x2 : Int)) (.int .i64 0) (.int .i64 0) (.int .i64 0) (.int .i64 0) (.slice A9 lr.length c9))
          · exact own_up (own_keep o10 qq (fun k hk hm => by have := (o10.lt k hk).1; simp at hm; omega)) (by omega)
          · intro x hx
            exact own_up (own_keep (O10.out x hx) qq (fun k hk hm => by have := ((O10.out x hx).lt k hk).1; simp at hm; omega)) (by omega)
  by_cases hk3 : x0 = 3
  · have hb1 : ((x0 : Int) == 1) = false := by rw [hk3]; rfl
    have hb3 : ((x0 : Int) == 3) = true := by rw [hk3]; rfl
    have HRW := Lib.hid (readW_3 (h0'.out.trans hk3) h1'.out h2'.out h3'.out)
    subst hk3
    clear h0' h1' h2' h3' hk1
    obtain ⟨z0, e0'⟩ : ∃ x, Hid (numAt X b 0 = x) := ⟨_, rfl⟩
    obtain ⟨z1, e1'⟩ : ∃ x, Hid (numAt X b 1 = x) := ⟨_, rfl⟩
    obtain ⟨z2, e2'⟩ : ∃ x, Hid (numAt X b 2 = x) := ⟨_, rfl⟩
    obtain ⟨z3, e3'⟩ : ∃ x, Hid (numAt X b 3 = x) := ⟨_, rfl⟩
    obtain ⟨⟨X2, b2⟩, e4'⟩ : ∃ x, Hid (numsSt X b 4 = x) := ⟨_, rfl⟩
    rw [e0'.out, e1'.out, e2'.out, e3'.out, e4'.out] at HRW
    simp only at HRW
    go_wp2_with (fail)
    have q5 := (Chg.refl [] w6).alloc (.cells #[.pointer (some ⟨w1.heap.size, 3, none⟩), .pointer (some ⟨w1.heap.size, 4, none⟩), .pointer (some ⟨w1.heap.size, 5, none⟩), .pointer (some ⟨w1.heap.size, 6, none⟩)] 69)
    have hlt6 := a6'.lt
    have hB6 := r6'.at_.lt
    refine (rnums_any B S [w1.heap.size] w6 _ A6 c6 X b (r6'.keep0 q5) (by omega) (some ⟨w6.heap.size, 0, none⟩) 4 4 [some ⟨w1.heap.size, 3, none⟩, some ⟨w1.heap.size, 4, none⟩, some ⟨w1.heap.size, 5, none⟩, some ⟨w1.heap.size, 6, none⟩] rfl ?_ (by simp) ?_ ?_ ?_
      (fun j w1' => At w1' w1.heap.size 26 #[.int .i64 3, .int .i64 (x1 : Int), .int .i64 (x2 : Int), .int .i64 (if 0 < j then (numAt X b 0 : Int) else 0), .int .i64 (if 1 < j then (numAt X b 1 : Int) else 0), .int .i64 (if 2 < j then (numAt X b 2 : Int) else 0), .int .i64 (if 3 < j then (numAt X b 3 : Int) else 0), .slice none 0 0]) ?_ ?_ ?_ ?_).mono ?_
    · exact Rd.new' rfl rfl rfl
    · refine Away.at (fun hx => ?_)
      simp only [List.mem_cons, List.not_mem_nil, or_false] at hx
      omega
    · intro k hk
      exact hU.out k (by simp at hk ⊢; simp [hk])
    · intro ad hx
      simp only [List.mem_cons, List.not_mem_nil, or_false, Option.some.injEq] at hx
      rcases hx with rfl | rfl | rfl | rfl <;> simp
    · exact a6'.al _
    · intro j w1' w2' hI hc
      exact hI.keep hc (by simp; omega)
    · intro j w1' hj hI
      rcases j with _ | _ | _ | _ | j <;> simp at hj
    · intro j w1' ad hj hI
      rcases j with _ | _ | _ | _ | j
      · obtain rfl : (⟨w1.heap.size, 3, none⟩ : Addr) = ad := by simpa using hj
        refine ⟨⟨_, (hI.cell 3).trans rfl⟩, hI.free 3, ?_⟩
        simpa using hI.set_ 3 (.int .i64 (numAt X b 0))
      · obtain rfl : (⟨w1.heap.size, 4, none⟩ : Addr) = ad := by simpa using hj
        refine ⟨⟨_, (hI.cell 4).trans rfl⟩, hI.free 4, ?_⟩
        simpa using hI.set_ 4 (.int .i64 (numAt X b 1))
      · obtain rfl : (⟨w1.heap.size, 5, none⟩ : Addr) = ad := by simpa using hj
        refine ⟨⟨_, (hI.cell 5).trans rfl⟩, hI.free 5, ?_⟩
        simpa using hI.set_ 5 (.int .i64 (numAt X b 2))
      · obtain rfl : (⟨w1.heap.size, 6, none⟩ : Addr) = ad := by simpa using hj
        refine ⟨⟨_, (hI.cell 6).trans rfl⟩, hI.free 6, ?_⟩
        simpa using hI.set_ 6 (.int .i64 (numAt X b 3))
      · simp at hj
    rintro e w7 ⟨rfl, a7, hch7, A7, c7, r7⟩
    have rT : RrG 100 w7 B S w7 A7 c7 X2 b2 := by
      have h := r7
      simp only [List.length_cons, List.length_nil, Nat.zero_add, Nat.reduceAdd, e4'.out] at h
      exact h
    have aT : At w7 w1.heap.size 26 #[.int .i64 3, .int .i64 (x1 : Int), .int .i64 (x2 : Int), .int .i64 (z0 : Int), .int .i64 (z1 : Int), .int .i64 (z2 : Int), .int .i64 (z3 : Int), .slice none 0 0] := by
      simpa [e0'.out, e1'.out, e2'.out, e3'.out] using a7
    have gT := (g6.al (.cells #[.pointer (some ⟨w1.heap.size, 3, none⟩), .pointer (some ⟨w1.heap.size, 4, none⟩), .pointer (some ⟨w1.heap.size, 5, none⟩), .pointer (some ⟨w1.heap.size, 6, none⟩)] 69)).keep hch7 (by simp; omega)
    have hcT : Chg [] w w7 := (hc6.t0 q5).trans hch7 (by intro x hx; simp only [List.mem_cons, List.not_mem_nil, or_false] at hx; omega)
    clear a7 r7 a6' r6' g6 hc6 q5 hch7 v0 v1 v2 e0' e1' e2' e3' e4'
    have oT := own_none w7 (w1.heap.size + 1) 50 9
    have OT : Hid (∀ x ∈ ([] : List RcV), OwnV w7 (w1.heap.size + 1) x) := by simp [Hid]
    have y0 := aT.cell 0
    have y1 := aT.cell 1
    have y2 := aT.cell 2
    have y3 := aT.cell 3
    have y4 := aT.cell 4
    have y5 := aT.cell 5
    have y6 := aT.cell 6
    have y7 := aT.cell 7
    simp only [List.getElem?_toArray, List.getElem?_cons_zero, List.getElem?_cons_succ] at y0 y1 y2 y3 y4 y5 y6 y7
    go_wp2_with (fail)
    clear y0 y1 y2 y3 y4 y5 y6 y7
    have HW0 := Lib.hid (wEncode_any w7 3 (x1 : Int) (x2 : Int) (z0 : Int) (z1 : Int) (z2 : Int) (z3 : Int) none 0 0 ([] : List RcV) rfl (Rd.of_own oT) (fun x hx => Rd.of_own (OT.out x hx)) (by simp))
    rw [List.map_nil] at HW0
    refine HW0.out.mono ?_
    clear HW0

    rintro e w10 ⟨A10, c10, rfl, hnb⟩
    obtain ⟨s, hs⟩ : ∃ s, Hid (isW ⟨3, (x1 : Int), (x2 : Int), (z0 : Int), (z1 : Int), (z2 : Int), (z3 : Int), []⟩ = s) := ⟨_, rfl⟩
    have hn4 := hnb.2.2.2.1
    have g10 := gT.keep hn4 (by simp)
    have a10 := aT.keep hn4 (by simp)
    have r10 := rT.stay hn4 (by simp)
    have hc10 := hcT.trans hn4 (by simp)
    have o10 := own_k0 oT hn4
    have O10 : Hid (∀ x ∈ ([] : List RcV), OwnV w10 (w1.heap.size + 1) x) := fun x hx => own_k0 (OT.out x hx) hn4
    have n10 := hnb.1
    clear hnb hn4 gT aT rT hcT oT OT
    have y0 := g10.cell 0
    have y1 := g10.cell 1
    have y2 := g10.cell 2
    have y3 := g10.cell 3
    have y4 := g10.cell 4
    have y5 := g10.cell 5
    have y6 := g10.cell 6
    have y7 := g10.cell 7
    have f0 := g10.free 0
    have f1 := g10.free 1
    have f2 := g10.free 2
    have f3 := g10.free 3
    have f4 := g10.free 4
    have f5 := g10.free 5
    have f6 := g10.free 6
    have f7 := g10.free 7
    simp only [List.getElem?_toArray, List.getElem?_cons_zero, List.getElem?_cons_succ] at y0 y1 y2 y3 y4 y5 y6 y7
    cases s
    · rw [encW_no hs.out]
      have HT := Lib.hid (H3.out Hz.out _ _ HRW.out (by rw [hs.out, Bool.and_false]))
      go_wp2_with (fail)
      refine ret_wd2 (g := w.heap.size) (T := 26) rfl Try.results15 rfl rfl (At.set8 g10 (.int .i64 0) (.int .i64 0) (.int .i64 0) (.int .i64 0) (.int .i64 0) (.int .i64 0) (.int .i64 0) (.slice none 0 0)) ?_
      exact DecWPost.no 3 (HT.out) (Chg.set8 hc10 (.inr (Nat.le_refl _)) (.int .i64 0) (.int .i64 0) (.int .i64 0) (.int .i64 0) (.int .i64 0) (.int .i64 0) (.int .i64 0) (.slice none 0 0))
    · rw [encW_yes hs.out] at n10 ⊢
      simp only at n10 ⊢
      go_wp2_with (fail)
      refine (whole_any B S _ w10 _ _ X2 b2 r10).mono ?_
      rintro e w11 ⟨rfl, rfl⟩
      obtain ⟨wh, hwh⟩ : ∃ wh, Hid ((!b2 && decide ((X2 : List UInt8) = [])) = wh) := ⟨_, rfl⟩
      have HRX : Hid (readW p = (⟨3, (x1 : Int), (x2 : Int), (z0 : Int), (z1 : Int), (z2 : Int), (z3 : Int), []⟩, wh)) := by unfold Hid; rw [HRW.out, ← hwh.out]
      rw [hwh.out]
      cases wh
      · have HT := Lib.hid (H3.out Hz.out _ _ HRX.out rfl)
        go_wp2_with (fail)
        refine ret_wd2 (g := w.heap.size) (T := 26) rfl Try.results15 rfl rfl (At.set8 g10 (.int .i64 0) (.int .i64 0) (.int .i64 0) (.int .i64 0) (.int .i64 0) (.int .i64 0) (.int .i64 0) (.slice none 0 0)) ?_
        exact DecWPost.no 3 (HT.out) (Chg.set8 hc10 (.inr (Nat.le_refl _)) (.int .i64 0) (.int .i64 0) (.int .i64 0) (.int .i64 0) (.int .i64 0) (.int .i64 0) (.int .i64 0) (.slice none 0 0))
      · obtain ⟨hd0, hd1⟩ := H0.out Hz.out _ HRX.out hs.out
        rw [hd1] at n10 ⊢
        have HD0 := Lib.hid hd0
        clear hd0 hd1
        go_wp2_with (fail)
        refine (equal_any w10 A10 A _ _ c10 c L L rfl rfl n10 (HR.out.keep0 hc10)).mono ?_
        rintro e w11 ⟨rfl, rfl⟩
        rw [decide_eq_true (rfl : L = L)]
        have u0 := a10.cell 0
        have u1 := a10.cell 1
        have u2 := a10.cell 2
        have u3 := a10.cell 3
        have u4 := a10.cell 4
        have u5 := a10.cell 5
        have u6 := a10.cell 6
        have u7 := a10.cell 7
        simp only [List.getElem?_toArray, List.getElem?_cons_zero, List.getElem?_cons_succ] at u0 u1 u2 u3 u4 u5 u6 u7
        go_wp2_with (fail)
        refine ret_wd2 (g := w.heap.size) (T := 26) rfl Try.results15 rfl rfl (At.set8 g10 (.int .i64 3) (.int .i64 (x1 : Int)) (.int .i64 (x2 : Int)) (.int .i64 (z0 : Int)) (.int .i64 (z1 : Int)) (.int .i64 (z2 : Int)) (.int .i64 (z3 : Int)) (.slice none 0 0)) ?_
        have qq : Chg [w.heap.size] w10 _ := Chg.set8 (g := w.heap.size) (Chg.refl [w.heap.size] w10) (.inl (by simp)) (.int .i64 3) (.int .i64 (x1 : Int)) (.int .i64 (x2 : Int)) (.int .i64 (z0 : Int)) (.int .i64 (z1 : Int)) (.int .i64 (z2 : Int)) (.int .i64 (z3 : Int)) (.slice none 0 0)
        refine DecWPost.yes ⟨3, (x1 : Int), (x2 : Int), (z0 : Int), (z1 : Int), (z2 : Int), (z3 : Int), none, ([] : List RcV), 0⟩ rfl HD0.out ?_ ?_ (Chg.set8 hc10 (.inr (Nat.le_refl _)) (.int .i64 3) (.int .i64 (x1 : Int)) (.int .i64 (x2 : Int)) (.int .i64 (z0 : Int)) (.int .i64 (z1 : Int)) (.int .i64 (z2 : Int)) (.int .i64 (z3 : Int)) (.slice none 0 0))
        · exact own_up (own_keep o10 qq (fun k hk hm => by have := (o10.lt k hk).1; simp at hm; omega)) (by omega)
        · intro x hx
          exact own_up (own_keep (O10.out x hx) qq (fun k hk hm => by have := ((O10.out x hx).lt k hk).1; simp at hm; omega)) (by omega)
  · have hb1 : ((x0 : Int) == 1) = false := by rw [beq_eq_false_iff_ne]; omega
    have hb3 : ((x0 : Int) == 3) = false := by rw [beq_eq_false_iff_ne]; omega
    have HRW := Lib.hid (readW_2 h0'.out h1'.out h2'.out h3'.out hk1 hk3)
    clear h0' h1' h2' h3' hk1 hk3
    have aT := a6'
    have gT := g6
    have rT := r6'
    have hcT := hc6
    have oT := own_none w6 (w1.heap.size + 1) 50 9
    have OT : Hid (∀ x ∈ ([] : List RcV), OwnV w6 (w1.heap.size + 1) x) := by simp [Hid]
    clear a6' g6 r6' hc6
    have v3 := aT.cell 3
    have v4 := aT.cell 4
    have v5 := aT.cell 5
    have v6 := aT.cell 6
    have v7 := aT.cell 7
    simp only [List.getElem?_toArray, List.getElem?_cons_zero, List.getElem?_cons_succ] at v3 v4 v5 v6 v7
    go_wp2_with (fail)
    clear v0 v1 v2 v3 v4 v5 v6 v7
    have HW0 := Lib.hid (wEncode_any w6 (x0 : Int) (x1 : Int) (x2 : Int) 0 0 0 0 none 0 0 ([] : List RcV) rfl (Rd.of_own oT) (fun x hx => Rd.of_own (OT.out x hx)) (by simp))
    rw [List.map_nil] at HW0
    refine HW0.out.mono ?_
    clear HW0

    rintro e w10 ⟨A10, c10, rfl, hnb⟩
    obtain ⟨s, hs⟩ : ∃ s, Hid (isW ⟨(x0 : Int), (x1 : Int), (x2 : Int), 0, 0, 0, 0, []⟩ = s) := ⟨_, rfl⟩
    have hn4 := hnb.2.2.2.1
    have g10 := gT.keep hn4 (by simp)
    have a10 := aT.keep hn4 (by simp)
    have r10 := rT.stay hn4 (by simp)
    have hc10 := hcT.trans hn4 (by simp)
    have o10 := own_k0 oT hn4
    have O10 : Hid (∀ x ∈ ([] : List RcV), OwnV w10 (w1.heap.size + 1) x) := fun x hx => own_k0 (OT.out x hx) hn4
    have n10 := hnb.1
    clear hnb hn4 gT aT rT hcT oT OT
    have y0 := g10.cell 0
    have y1 := g10.cell 1
    have y2 := g10.cell 2
    have y3 := g10.cell 3
    have y4 := g10.cell 4
    have y5 := g10.cell 5
    have y6 := g10.cell 6
    have y7 := g10.cell 7
    have f0 := g10.free 0
    have f1 := g10.free 1
    have f2 := g10.free 2
    have f3 := g10.free 3
    have f4 := g10.free 4
    have f5 := g10.free 5
    have f6 := g10.free 6
    have f7 := g10.free 7
    simp only [List.getElem?_toArray, List.getElem?_cons_zero, List.getElem?_cons_succ] at y0 y1 y2 y3 y4 y5 y6 y7
    cases s
    · rw [encW_no hs.out]
      have HT := Lib.hid (H3.out Hz.out _ _ HRW.out (by rw [hs.out, Bool.and_false]))
      go_wp2_with (fail)
      refine ret_wd2 (g := w.heap.size) (T := 26) rfl Try.results15 rfl rfl (At.set8 g10 (.int .i64 0) (.int .i64 0) (.int .i64 0) (.int .i64 0) (.int .i64 0) (.int .i64 0) (.int .i64 0) (.slice none 0 0)) ?_
      exact DecWPost.no 3 (HT.out) (Chg.set8 hc10 (.inr (Nat.le_refl _)) (.int .i64 0) (.int .i64 0) (.int .i64 0) (.int .i64 0) (.int .i64 0) (.int .i64 0) (.int .i64 0) (.slice none 0 0))
    · rw [encW_yes hs.out] at n10 ⊢
      simp only at n10 ⊢
      go_wp2_with (fail)
      refine (whole_any B S _ w10 _ _ X b r10).mono ?_
      rintro e w11 ⟨rfl, rfl⟩
      obtain ⟨wh, hwh⟩ : ∃ wh, Hid ((!b && decide ((X : List UInt8) = [])) = wh) := ⟨_, rfl⟩
      have HRX : Hid (readW p = (⟨(x0 : Int), (x1 : Int), (x2 : Int), 0, 0, 0, 0, []⟩, wh)) := by unfold Hid; rw [HRW.out, ← hwh.out]
      rw [hwh.out]
      cases wh
      · have HT := Lib.hid (H3.out Hz.out _ _ HRX.out rfl)
        go_wp2_with (fail)
        refine ret_wd2 (g := w.heap.size) (T := 26) rfl Try.results15 rfl rfl (At.set8 g10 (.int .i64 0) (.int .i64 0) (.int .i64 0) (.int .i64 0) (.int .i64 0) (.int .i64 0) (.int .i64 0) (.slice none 0 0)) ?_
        exact DecWPost.no 3 (HT.out) (Chg.set8 hc10 (.inr (Nat.le_refl _)) (.int .i64 0) (.int .i64 0) (.int .i64 0) (.int .i64 0) (.int .i64 0) (.int .i64 0) (.int .i64 0) (.slice none 0 0))
      · obtain ⟨hd0, hd1⟩ := H0.out Hz.out _ HRX.out hs.out
        rw [hd1] at n10 ⊢
        have HD0 := Lib.hid hd0
        clear hd0 hd1
        go_wp2_with (fail)
        refine (equal_any w10 A10 A _ _ c10 c L L rfl rfl n10 (HR.out.keep0 hc10)).mono ?_
        rintro e w11 ⟨rfl, rfl⟩
        rw [decide_eq_true (rfl : L = L)]
        have u0 := a10.cell 0
        have u1 := a10.cell 1
        have u2 := a10.cell 2
        have u3 := a10.cell 3
        have u4 := a10.cell 4
        have u5 := a10.cell 5
        have u6 := a10.cell 6
        have u7 := a10.cell 7
        simp only [List.getElem?_toArray, List.getElem?_cons_zero, List.getElem?_cons_succ] at u0 u1 u2 u3 u4 u5 u6 u7
        go_wp2_with (fail)
        refine ret_wd2 (g := w.heap.size) (T := 26) rfl Try.results15 rfl rfl (At.set8 g10 (.int .i64 (x0 : Int)) (.int .i64 (x1 : Int)) (.int .i64 (x2 : Int)) (.int .i64 0) (.int .i64 0) (.int .i64 0) (.int .i64 0) (.slice none 0 0)) ?_
        have qq : Chg [w.heap.size] w10 _ := Chg.set8 (g := w.heap.size) (Chg.refl [w.heap.size] w10) (.inl (by simp)) (.int .i64 (x0 : Int)) (.int .i64 (x1 : Int)) (.int .i64 (x2 : Int)) (.int .i64 0) (.int .i64 0) (.int .i64 0) (.int .i64 0) (.slice none 0 0)
        refine DecWPost.yes ⟨(x0 : Int), (x1 : Int), (x2 : Int), 0, 0, 0, 0, none, ([] : List RcV), 0⟩ rfl HD0.out ?_ ?_ (Chg.set8 hc10 (.inr (Nat.le_refl _)) (.int .i64 (x0 : Int)) (.int .i64 (x1 : Int)) (.int .i64 (x2 : Int)) (.int .i64 0) (.int .i64 0) (.int .i64 0) (.int .i64 0) (.slice none 0 0))
        · exact own_up (own_keep o10 qq (fun k hk hm => by have := (o10.lt k hk).1; simp at hm; omega)) (by omega)
        · intro x hx
          exact own_up (own_keep (O10.out x hx) qq (fun k hk hm => by have := ((O10.out x hx).lt k hk).1; simp at hm; omega)) (by omega)
end Go.Proofs.Ytkdbjhmffnjimaa
namespace Go.Proofs.Ytkdbjhmffnjimaa
open Go.RowKit
set_option linter.unusedVariables false

/-- 'heavy' is told: where it says no, records are no more than is looked at. -/
def HeavyW (most : Nat) (ls : List RcV) (w : World) (e : Ending) (w' : World) : Prop := ∃ hv : Bool, e = .returned (.bool hv) ∧ (hv = false → 20 * ls.length + (ls.map fun x => x.r.key.length + x.r.val.length).sum ≤ most) ∧ Chg [] w w'

set_option maxRecDepth 100000 in
set_option maxHeartbeats 1600000 in
theorem heavyW_any (w : World) (kd o q sm sc fm fc : Int) (A : Option Addr) (n c : Nat) (ls : List RcV) (hn : ls.length = n) (hr : Rd w 9 A ls.length (cRc ls)) (hls : ls.length ≤ 140737488351232) (hbs : ∀ x ∈ ls, x.r.key.length ≤ 140737488351232 ∧ x.r.val.length ≤ 140737488351232) :
    Calls Try.prog 9 #[.agg #[.int .i64 kd, .int .i64 o, .int .i64 q, .int .i64 sm, .int .i64 sc, .int .i64 fm, .int .i64 fc, .slice A n c]] w (HeavyW 8000 ls w) := by
  subst hn
  have HB := Lib.hid hbs
  have HR := Lib.hid hr
  have h0 := Chg.alloc (.refl [] w) (.cells #[.int .i64 kd, .int .i64 o, .int .i64 q, .int .i64 sm, .int .i64 sc, .int .i64 fm, .int .i64 fc, .slice A ls.length c] 26)
  have a0 := At.new w 26 #[.int .i64 kd, .int .i64 o, .int .i64 q, .int .i64 sm, .int .i64 sc, .int .i64 fm, .int .i64 fc, .slice A ls.length c]
  clear hbs hr
  go_enter Try.func9, Try.ntmps9
  go_wp2_with (fail)
  go_loopw [4, 3] (fun i m wr => ∃ k x : Nat, k ≤ ls.length ∧ i = .int .i64 k ∧ m = .int .i64 x ∧ x ≤ 8000 ∧ Hid (x = 20 * k + ((ls.take k).map fun x => x.r.key.length + x.r.val.length).sum) ∧ At wr w.heap.size 26 #[.int .i64 kd, .int .i64 o, .int .i64 q, .int .i64 sm, .int .i64 sc, .int .i64 fm, .int .i64 fc, .slice A ls.length c] ∧ Chg [] w wr) (fun i _ _ => ls.length - (intOf i).toNat)
  case atStart => exact ⟨0, 0, Nat.zero_le _, rfl, rfl, by omega, by simp [Hid], a0, h0⟩
  case round =>
    clear a0 h0
    obtain ⟨k, x, hk, rfl, rfl, hx, HX, a1, hch⟩ := hrel
    have w7 := a1.cell 7
    simp only [List.getElem?_toArray, List.getElem?_cons_zero, List.getElem?_cons_succ] at w7
    by_cases hlt : k < ls.length
    · obtain ⟨ad, rfl, had, hc0, hc⟩ := (HR.out.keep0 hch).getR hlt
      have hrb := HB.out _ (List.getElem_mem hlt)
      have HT : Hid (((ls.take (k + 1)).map fun x => x.r.key.length + x.r.val.length).sum = ((ls.take k).map fun x => x.r.key.length + x.r.val.length).sum + (ls[k].r.key.length + ls[k].r.val.length)) := by
        unfold Hid; rw [List.take_succ_eq_append_getElem hlt, List.map_append, List.sum_append]; simp
      have hc2 := hc 2 _ (by omega) rfl
      have hc6 := hc 6 _ (by omega) rfl
      generalize ls[k] = r at *
      clear hc hc0
      obtain ⟨⟨o', q', key, m, c', vo, val, gone, ttl⟩, A', cp⟩ := r
      simp only at hc2 hc6 HT hrb
      obtain ⟨hb1, hb2⟩ := hrb
      have hki : (k : Int) < (ls.length : Int) := by omega
      go_wp2_with (fail)
      go_quiet (fail)
      by_cases h5 : 8000 < x + 20 + key.length + val.length
      · go_wp2_with (fail)
        go_ret
        exact ⟨true, rfl, by simp, by first | exact hch.drewN _ | exact hch⟩
      · go_wp2_with (fail)
        go_roundw
        case rel => exact ⟨k + 1, x + 20 + key.length + val.length, by omega, by go_num, by go_num, by omega, by unfold Hid; rw [HT.out, HX.out]; omega, by first | exact a1.drewN _ | exact a1, by first | exact hch.drewN _ | exact hch⟩
        case measure => simp [intOf]; omega
    · obtain rfl : k = ls.length := by omega
      go_wp2_with (fail)
      go_ret
      refine ⟨false, rfl, fun _ => ?_, hch⟩
      have h := HX.out
      rw [List.take_length] at h
      omega

set_option maxRecDepth 100000 in
set_option maxHeartbeats 3200000 in
theorem words_yes (w : World) (k o q sm sc fm fc : Int) (A B : Option Addr) (n m c d : Nat) (xs ys : List RcV) (h : xs.map RcV.r = ys.map RcV.r) (hn : xs.length = n) (hm : ys.length = m) (hx : Rd w 9 A xs.length (cRc xs)) (hy : Rd w 9 B ys.length (cRc ys))
    (hxs : ∀ x ∈ xs, Rd w 1 x.A x.r.val.length (cB x.r.val)) (hys : ∀ x ∈ ys, Rd w 1 x.A x.r.val.length (cB x.r.val)) (hl : xs.length ≤ 1099511627776) :
    Calls Try.prog 13 #[.agg #[.int .i64 k, .int .i64 o, .int .i64 q, .int .i64 sm, .int .i64 sc, .int .i64 fm, .int .i64 fc, .slice A n c], .agg #[.int .i64 k, .int .i64 o, .int .i64 q, .int .i64 sm, .int .i64 sc, .int .i64 fm, .int .i64 fc, .slice B m d]] w fun e w' => e = .returned (.bool true) ∧ Chg [] w w' := by
  have HC := Lib.hid (fun w' (hc : Chg [] w w') => records_yes w' A B n m c d xs ys h hn hm (hx.keep0 hc) (hy.keep0 hc) (fun x hx => (hxs x hx).keep0 hc) (fun x hx => (hys x hx).keep0 hc) hl)
  clear h hn hm hx hy hxs hys hl
  go_enter Try.func13, Try.ntmps13
  go_wp2_with (fail)
  have h0 := ((Chg.refl [] w).alloc (.cells #[.int .i64 k, .int .i64 o, .int .i64 q, .int .i64 sm, .int .i64 sc, .int .i64 fm, .int .i64 fc, .slice A n c] 26)).alloc (.cells #[.int .i64 k, .int .i64 o, .int .i64 q, .int .i64 sm, .int .i64 sc, .int .i64 fm, .int .i64 fc, .slice B m d] 26)
  refine (HC.out _ h0).mono ?_
  rintro e w1 ⟨rfl, hch1⟩
  go_wp2_with (fail)
  go_ret
  exact ⟨rfl, h0.trans hch1 (by simp)⟩

theorem isW_ack : isW ⟨2, 1, 5, 0, 0, 0, 0, []⟩ = true := by decide
set_option maxRecDepth 100000 in
set_option maxHeartbeats 3200000 in
theorem knownW_any (w : World) : Calls Try.prog 14 #[] w fun e w' => e = .returned (.bool true) ∧ Chg [] w w' := by
  have HE := Lib.hid (wEncode_any w 2 1 5 0 0 0 0 none 0 0 [] rfl (Rd.nil _ _ _) (by simp) (by simp))
  rw [List.map_nil, encW_yes isW_ack] at HE
  have HD := Lib.hid (decW_enc isW_ack)
  have hl := encF_len (bodyW ⟨2, 1, 5, 0, 0, 0, 0, []⟩)
  have hl2 := bodyW_len isW_ack
  obtain ⟨E, hE⟩ : ∃ E, Hid (encF (bodyW ⟨2, 1, 5, 0, 0, 0, 0, []⟩) = E) := ⟨_, rfl⟩
  rw [hE.out] at HE HD hl
  have h3 : (3 : Int) < (E.length : Int) := by omega
  have hEl : E.length ≤ 1099511627776 := by omega
  clear hl hl2 hE
  go_enter Try.func14, Try.ntmps14
  go_wp2_with (fail)
  refine HE.out.mono ?_
  rintro e w1 ⟨A1, c1, rfl, hnb⟩
  simp only at hnb ⊢
  have HDC := Lib.hid (wDecode_any w1 A1 _ c1 E rfl hnb.1 hnb.2.1 hEl)
  rw [HD.out] at HDC
  have hc1 := hnb.2.2.2.1
  clear HE HD hnb
  go_wp2_with (fail)
  refine HDC.out.mono ?_
  rintro e w2 ⟨⟨xk, xo, xq, xsm, xsc, xfm, xfc, A2, l2, c2⟩, rfl, hx, hown, hO, hch2⟩
  simp only [WdV.d, Wd.mk.injEq, List.map_eq_nil_iff] at hx
  obtain ⟨rfl, rfl, rfl, rfl, rfl, rfl, rfl, rfl⟩ := hx
  simp only [WdV.cells, List.length_nil] at hown ⊢
  have hc2 := hc1.trans hch2 (by simp)
  clear HDC hO hch2 hc1
  go_wp2_with (fail)
  have q3 := (Chg.refl [] w2).alloc (.cells #[.int .i64 2, .int .i64 1, .int .i64 5, .int .i64 0, .int .i64 0, .int .i64 0, .int .i64 0, .slice A2 0 c2] 26)
  refine (words_yes _ 2 1 5 0 0 0 0 A2 none 0 0 c2 0 [] [] rfl rfl rfl (Rd.nil _ _ _) (Rd.nil _ _ _) (by simp) (by simp) (by simp)).mono ?_
  rintro e w3 ⟨rfl, hch3⟩
  go_wp2_with (fail)
  go_ret
  exact ⟨rfl, (hc2.trans q3 (by simp)).trans hch3 (by simp)⟩
end Go.Proofs.Ytkdbjhmffnjimaa
