
/-
  Merged by merge.py: WirI, WirI2, WirE, WirD, WirL.
-/
import Derived.Test.YtdfkednggjelcaaRecW
import Derived.Test.YtdfkednggjelcaaRecS
import Derived.Test.YtdfkednggjelcaaMStH
import Derived.Test.YtdfkednggjelcaaMBase
import Derived.Test.YtdfkednggjelcaaWirA1
import Derived.Test.YtdfkednggjelcaaRecLi
import Derived.Test.YtdfkednggjelcaaFraE
import Derived.Test.YtdfkednggjelcaaMOct
import Derived.Test.YtdfkednggjelcaaMFra
import Derived.Test.YtdfkednggjelcaaMRecR
import Derived.Test.YtdfkednggjelcaaMRecQ
import Derived.BigQuiet
namespace Go.Proofs.Ytdfkednggjelcaa
open Go.RowKit
set_option linter.unusedVariables false

set_option maxRecDepth 100000 in
set_option maxHeartbeats 1600000 in
theorem isStamp_any (w : World) (m c : Int) : Calls Try.prog 72 #[.agg #[.int .i64 m, .int .i64 c]] w fun e w' => e = .returned (.bool (isS m c)) ∧ Chg [] w w' := by
  obtain ⟨s, hs⟩ : ∃ s, Hid (isS m c = s) := ⟨_, rfl⟩
  rw [hs.out]
  cases s
  · go_enter Try.func72, Try.ntmps72
    go_wp2_with (fail)
    refine (pack_no _ _ _ hs.out).mono ?_
    rintro e w1 ⟨rfl, hch1⟩
    go_wp2_with (fail)
    go_ret
    exact ⟨rfl, ((Chg.refl [] w).alloc _).trans hch1 (by simp)⟩
  · go_enter Try.func72, Try.ntmps72
    go_wp2_with (fail)
    refine (pack_yes _ _ _ hs.out).mono ?_
    rintro e w1 ⟨rfl, hch1⟩
    go_wp2_with (fail)
    go_ret
    exact ⟨rfl, ((Chg.refl [] w).alloc _).trans hch1 (by simp)⟩

set_option maxRecDepth 100000 in
set_option maxHeartbeats 1600000 in
theorem goes_any (w : World) (kd o q sm sc fm fc : Int) (A : Option Addr) (n c : Nat) (ls : List RcV) (hn : ls.length = n) (hr : Rd w 9 A ls.length (cRc ls)) (hls : ls.length ≤ 1099511627776) (hq0 : 0 ≤ q) (hq1 : q ≤ 1099511627776) :
    Calls Try.prog 71 #[.agg #[.int .i64 kd, .int .i64 o, .int .i64 q, .int .i64 sm, .int .i64 sc, .int .i64 fm, .int .i64 fc, .slice A n c]] w fun e w' =>
      e = .returned (.bool (goesW ⟨kd, o, q, sm, sc, fm, fc, ls.map RcV.r⟩)) ∧ Chg [] w w' := by
  subst hn
  have HR := Lib.hid (hr.alloc (.cells #[.int .i64 kd, .int .i64 o, .int .i64 q, .int .i64 sm, .int .i64 sc, .int .i64 fm, .int .i64 fc, .slice A ls.length c] 90))
  clear hr
  have h0 := Chg.alloc (.refl [] w) (.cells #[.int .i64 kd, .int .i64 o, .int .i64 q, .int .i64 sm, .int .i64 sc, .int .i64 fm, .int .i64 fc, .slice A ls.length c] 90)
  have a0 := At.new w 90 #[.int .i64 kd, .int .i64 o, .int .i64 q, .int .i64 sm, .int .i64 sc, .int .i64 fm, .int .i64 fc, .slice A ls.length c]
  go_enter Try.func71, Try.ntmps71
  go_wp2_with (fail)
  generalize w.alloc (.cells #[.int .i64 kd, .int .i64 o, .int .i64 q, .int .i64 sm, .int .i64 sc, .int .i64 fm, .int .i64 fc, .slice A ls.length c] 90) = w0 at *
  go_loopw [8] (fun i wr => ∃ k : Nat, k ≤ ls.length ∧ i = .int .i64 k ∧ Hid (∀ j (h : j < ls.length), j < k → isR ls[j].r = true ∧ ls[j].r.o = o ∧ ls[j].r.q = q + j) ∧ At wr w.heap.size 90 #[.int .i64 kd, .int .i64 o, .int .i64 q, .int .i64 sm, .int .i64 sc, .int .i64 fm, .int .i64 fc, .slice A ls.length c] ∧ Chg [] w wr ∧ Chg [] w0 wr) (fun i _ => ls.length - (intOf i).toNat)
  case atStart => exact ⟨0, Nat.zero_le _, rfl, by intro j h hj; omega, a0, h0, Chg.refl _ _⟩
  case round =>
    obtain ⟨k, hk, rfl, HI, a1, hch, hch0⟩ := hrel
    have y1 := a1.cell 1
    have y2 := a1.cell 2
    have y7 := a1.cell 7
    simp only [List.getElem?_toArray, List.getElem?_cons_zero, List.getElem?_cons_succ] at y1 y2 y7
    by_cases hlt : k < ls.length
    · obtain ⟨ad, rfl, had, hc0, hc⟩ := (HR.out.keep0 hch0).getR hlt
      have HNo : Hid (isR ls[k].r = false ∨ ls[k].r.o ≠ o ∨ ls[k].r.q ≠ q + k → goesW ⟨kd, o, q, sm, sc, fm, fc, ls.map RcV.r⟩ = false) := fun h => by
        unfold goesW
        simp only
        rw [goesL_no (i := k) (by simpa using hlt) (by simpa using h)]
        rfl
      have HYes : Hid (isR ls[k].r = true → ls[k].r.o = o → ls[k].r.q = q + k → ∀ j (h : j < ls.length), j < k + 1 → isR ls[j].r = true ∧ ls[j].r.o = o ∧ ls[j].r.q = q + j) := fun h1 h2 h3 j h hj => by
        by_cases e : j = k
        · subst e; exact ⟨h1, h2, h3⟩
        · exact HI.out j h (by omega)
      have hc1 := hc 1 _ (by omega) rfl
      have hc2 := hc 2 _ (by omega) rfl
      have hc3 := hc 3 _ (by omega) rfl
      have hc4 := hc 4 _ (by omega) rfl
      have hc5 := hc 5 _ (by omega) rfl
      have hc6 := hc 6 _ (by omega) rfl
      have hc7 := hc 7 _ (by omega) rfl
      have hc8 := hc 8 _ (by omega) rfl
      generalize ls[k] = r at *
      clear hc
      obtain ⟨⟨ro, rq, key, m, c', vo, val, gone, ttl⟩, A', cp⟩ := r
      simp only at hc0 hc1 hc2 hc3 hc4 hc5 hc6 hc7 hc8 HNo HYes
      have hki : (k : Int) < (ls.length : Int) := by omega
      go_wp2_with (fail)
      refine (recIs_any _ ro rq key m c' vo A' val cp gone ttl).mono ?_
      rintro e w3 ⟨rfl, hch3⟩
      have g3 := (At.new wr 51 #[.int .i64 ro, .int .i64 rq, .string ⟨key.toArray⟩, .int .i64 m, .int .i64 c', .int .i64 vo, .slice A' val.length cp, .bool gone, .int .i64 ttl]).keep hch3 (by simp)
      have a3 := (a1.al (.cells #[.int .i64 ro, .int .i64 rq, .string ⟨key.toArray⟩, .int .i64 m, .int .i64 c', .int .i64 vo, .slice A' val.length cp, .bool gone, .int .i64 ttl] 51)).keep hch3 (by simp)
      have hcw := (hch.alloc (.cells #[.int .i64 ro, .int .i64 rq, .string ⟨key.toArray⟩, .int .i64 m, .int .i64 c', .int .i64 vo, .slice A' val.length cp, .bool gone, .int .i64 ttl] 51)).trans hch3 (by simp)
      have hcw0 := (hch0.alloc (.cells #[.int .i64 ro, .int .i64 rq, .string ⟨key.toArray⟩, .int .i64 m, .int .i64 c', .int .i64 vo, .slice A' val.length cp, .bool gone, .int .i64 ttl] 51)).trans hch3 (by simp)
      have z0 := g3.cell 0
      have z1 := g3.cell 1
      have u1 := a3.cell 1
      have u2 := a3.cell 2
      simp only [List.getElem?_toArray, List.getElem?_cons_zero, List.getElem?_cons_succ] at z0 z1 u1 u2
      clear hc0 hc1 hc2 hc3 hc4 hc5 hc6 hc7 hc8 hch3 y1 y2 y7 g3
      obtain ⟨s, hs⟩ : ∃ s, Hid (isR ⟨ro, rq, key, m, c', vo, val, gone, ttl⟩ = s) := ⟨_, rfl⟩
      rw [hs.out] at HNo HYes ⊢
      cases s
      · have HN := Lib.hid (HNo.out (.inl rfl))
        go_wp2_with (fail)
        go_ret
        exact ⟨by rw [HN.out]; rfl, hcw⟩
      · by_cases ho : ro = o
        · have hob : ((ro : Int) != o) = false := by rw [ho]; simp
          by_cases hq : rq = q + k
          · have hqb : ((rq : Int) != q + k) = false := by rw [hq]; simp
            have HY := Lib.hid (HYes.out rfl ho hq)
            have Ho := Lib.hid ho
            have Hq := Lib.hid hq
            clear ho hq HNo HYes
            go_wp2_with (fail)
            go_roundw
            case rel => exact ⟨k + 1, by omega, by go_num, HY.out, a3, hcw, hcw0⟩
            case measure => simp [intOf]; omega
          · have hqb : ((rq : Int) != q + k) = true := by rw [bne_iff_ne]; exact hq
            have HN := Lib.hid (HNo.out (.inr (.inr hq)))
            have Ho := Lib.hid ho
            clear ho hq HNo HYes
            go_wp2_with (fail)
            go_ret
            exact ⟨by rw [HN.out]; rfl, hcw⟩
        · have hob : ((ro : Int) != o) = true := by rw [bne_iff_ne]; exact ho
          have HN := Lib.hid (HNo.out (.inr (.inl ho)))
          clear ho HNo HYes
          go_wp2_with (fail)
          go_ret
          exact ⟨by rw [HN.out]; rfl, hcw⟩
    · obtain rfl : k = ls.length := by omega
      have HG : Hid (goesL o q (ls.map RcV.r) = true) := by
        unfold Hid; rw [goesL_iff]
        intro i hi
        have h1 := HI.out i (by simpa using hi) (by simpa using hi)
        simpa using h1
      have HW : Hid (goesW ⟨kd, o, q, sm, sc, fm, fc, ls.map RcV.r⟩ = (decide (1 ≤ ls.length) && decide (ls.length ≤ 64))) := by
        unfold Hid goesW; simp only [HG.out, List.length_map, Bool.true_and]
      by_cases h1 : 1 ≤ ls.length
      · have h1b : (1 : Int) ≤ (ls.length : Int) := by omega
        by_cases h64 : ls.length ≤ 64
        · have h2b : (ls.length : Int) ≤ 64 := by omega
          go_wp2_with (fail)
          go_ret
          exact ⟨by rw [HW.out, decide_eq_true h1]; simp [h64], hch⟩
        · have h2b : ¬ (ls.length : Int) ≤ 64 := by omega
          go_wp2_with (fail)
          go_ret
          exact ⟨by rw [HW.out, decide_eq_true h1]; simp [h64], hch⟩
      · have h1b : ¬ (1 : Int) ≤ (ls.length : Int) := by omega
        go_wp2_with (fail)
        go_ret
        exact ⟨by rw [HW.out]; simp [h1], hch⟩
end Go.Proofs.Ytdfkednggjelcaa
namespace Go.Proofs.Ytdfkednggjelcaa
open Go.RowKit
set_option linter.unusedVariables false

set_option maxRecDepth 100000 in
set_option maxHeartbeats 3200000 in
theorem isW_any (w : World) (kd o q sm sc fm fc : Int) (A : Option Addr) (n c : Nat) (ls : List RcV) (hn : ls.length = n) (hr : Rd w 9 A ls.length (cRc ls)) (hls : ls.length ≤ 1099511627776) :
    Calls Try.prog 53 #[.agg #[.int .i64 kd, .int .i64 o, .int .i64 q, .int .i64 sm, .int .i64 sc, .int .i64 fm, .int .i64 fc, .slice A n c]] w fun e w' =>
      e = .returned (.bool (isW ⟨kd, o, q, sm, sc, fm, fc, ls.map RcV.r⟩)) ∧ Chg [] w w' := by
  subst hn
  have HR := Lib.hid (hr.alloc (.cells #[.int .i64 kd, .int .i64 o, .int .i64 q, .int .i64 sm, .int .i64 sc, .int .i64 fm, .int .i64 fc, .slice A ls.length c] 90))
  clear hr
  have h0 := Chg.alloc (.refl [] w) (.cells #[.int .i64 kd, .int .i64 o, .int .i64 q, .int .i64 sm, .int .i64 sc, .int .i64 fm, .int .i64 fc, .slice A ls.length c] 90)
  have a0 := At.new w 90 #[.int .i64 kd, .int .i64 o, .int .i64 q, .int .i64 sm, .int .i64 sc, .int .i64 fm, .int .i64 fc, .slice A ls.length c]
  have hrs0 : Hid (ls.map RcV.r = [] ↔ ls.length = 0) := by unfold Hid; rw [List.map_eq_nil_iff, List.length_eq_zero_iff]
  by_cases g1 : o < 0
  · have HN : Hid (isW ⟨kd, o, q, sm, sc, fm, fc, ls.map RcV.r⟩ = false) := by unfold Hid isW headW; simp only [decide_eq_false (show ¬ 0 ≤ o by omega), Bool.false_and]
    go_enter Try.func53, Try.ntmps53
    go_wp2_with (fail)
    go_ret
    exact ⟨by rw [HN.out]; rfl, h0⟩
  by_cases g2 : 5 ≤ o
  · have HN : Hid (isW ⟨kd, o, q, sm, sc, fm, fc, ls.map RcV.r⟩ = false) := by unfold Hid isW headW; simp only [decide_eq_false (show ¬ o < 5 by omega), Bool.false_and, Bool.and_false]
    go_enter Try.func53, Try.ntmps53
    go_wp2_with (fail)
    go_ret
    exact ⟨by rw [HN.out]; rfl, h0⟩
  by_cases g3 : q < 0
  · have HN : Hid (isW ⟨kd, o, q, sm, sc, fm, fc, ls.map RcV.r⟩ = false) := by unfold Hid isW headW; simp only [decide_eq_false (show ¬ 0 ≤ q by omega), Bool.false_and, Bool.and_false]
    go_enter Try.func53, Try.ntmps53
    go_wp2_with (fail)
    go_ret
    exact ⟨by rw [HN.out]; rfl, h0⟩
  by_cases g4 : 1099511627776 < q
  · have HN : Hid (isW ⟨kd, o, q, sm, sc, fm, fc, ls.map RcV.r⟩ = false) := by unfold Hid isW headW; simp only [decide_eq_false (show ¬ q ≤ 1099511627776 by omega), Bool.false_and, Bool.and_false]
    go_enter Try.func53, Try.ntmps53
    go_wp2_with (fail)
    go_ret
    exact ⟨by rw [HN.out]; rfl, h0⟩
  have hh : Hid (headW ⟨kd, o, q, sm, sc, fm, fc, ls.map RcV.r⟩ = true) := by unfold Hid headW; simp only [decide_eq_true (show 0 ≤ o by omega), decide_eq_true (show o < 5 by omega), decide_eq_true (show 0 ≤ q by omega), decide_eq_true (show q ≤ 1099511627776 by omega), Bool.and_self]
  obtain ⟨nn, hnn⟩ : ∃ nn, Hid ((decide (sm = 0) && decide (sc = 0) && decide (fm = 0) && decide (fc = 0)) = nn) := ⟨_, rfl⟩
  have hIs : Hid (isW ⟨kd, o, q, sm, sc, fm, fc, ls.map RcV.r⟩ = if kd = 1 then nn && goesW ⟨kd, o, q, sm, sc, fm, fc, ls.map RcV.r⟩ else if kd = 2 then nn && decide (ls.map RcV.r = []) else if kd = 3 then isS sm sc && isS fm fc && decide (ls.map RcV.r = []) else false) := by
    unfold Hid isW; rw [hh.out, ← hnn.out]; rfl

  by_cases k3 : kd = 3
  · have hI3 : Hid (isW ⟨kd, o, q, sm, sc, fm, fc, ls.map RcV.r⟩ = (isS sm sc && isS fm fc && decide (ls.map RcV.r = []))) := by unfold Hid; rw [hIs.out, if_neg (by omega), if_neg (by omega), if_pos k3]
    subst k3
    clear hIs hnn hh
    obtain ⟨s1, hs1⟩ : ∃ s, Hid (isS sm sc = s) := ⟨_, rfl⟩
    obtain ⟨s2, hs2⟩ : ∃ s, Hid (isS fm fc = s) := ⟨_, rfl⟩
    obtain ⟨s3, hs3⟩ : ∃ s, Hid (decide (ls.map RcV.r = []) = s) := ⟨_, rfl⟩
    have hl3 : Hid (s3 = decide (ls.length = 0)) := by unfold Hid; rw [← hs3.out]; exact decide_eq_decide.2 hrs0.out
    have hI4 : Hid (isW ⟨3, o, q, sm, sc, fm, fc, ls.map RcV.r⟩ = (s1 && s2 && s3)) := by unfold Hid; rw [hI3.out, hs1.out, hs2.out, hs3.out]
    clear hI3 hs3 hrs0
    have fin : ∀ b : Bool, (s1 && s2 && s3) = b → ∀ w', Chg [] w w' → (Ending.returned (.bool b) = Ending.returned (.bool (isW ⟨3, o, q, sm, sc, fm, fc, ls.map RcV.r⟩)) ∧ Chg [] w w') := fun b hb w' hc => ⟨by rw [hI4.out, hb], hc⟩
    have Fin := Lib.hid fin
    clear fin hI4
    by_cases esm : sm = 0
    rotate_left
    · go_enter Try.func53, Try.ntmps53
      go_wp2_with (fail)
      refine (isStamp_any _ _ _).mono ?_
      rintro e w1 ⟨rfl, hch1⟩
      rw [hs1.out]
      have a1 := a0.keep hch1 (by simp)
      have c1 := h0.trans hch1 (by simp)
      have y5 := a1.cell 5
      have y6 := a1.cell 6
      have y7 := a1.cell 7
      simp only [List.getElem?_toArray, List.getElem?_cons_zero, List.getElem?_cons_succ] at y5 y6 y7
      cases s1
      · go_wp2_with (fail)
        go_ret
        exact Fin.out false rfl _ c1
      · go_wp2_with (fail)
        refine (isStamp_any _ _ _).mono ?_
        rintro e w2 ⟨rfl, hch2⟩
        rw [hs2.out]
        have a2 := a1.keep hch2 (by simp)
        have c2 := c1.trans hch2 (by simp)
        have z7 := a2.cell 7
        simp only [List.getElem?_toArray, List.getElem?_cons_zero, List.getElem?_cons_succ] at z7
        clear y5 y6 y7
        cases s2
        · go_wp2_with (fail)
          go_ret
          exact Fin.out false rfl _ c2
        · by_cases hl0 : ls.length = 0
          · have e3 := hl3.out
            rw [decide_eq_true hl0] at e3
            subst e3
            have hli : ((ls.length : Int) == 0) = true := by rw [hl0]; rfl
            have HL0 := Lib.hid hl0
            clear hl0
            go_wp2_with (fail)
            go_ret
            exact Fin.out true rfl _ c2
          · have e3 := hl3.out
            rw [decide_eq_false hl0] at e3
            subst e3
            have hli : ((ls.length : Int) == 0) = false := by rw [beq_eq_false_iff_ne]; omega
            have HL0 := Lib.hid hl0
            clear hl0
            go_wp2_with (fail)
            go_ret
            exact Fin.out false rfl _ c2
    subst esm
    by_cases esc : sc = 0
    rotate_left
    · go_enter Try.func53, Try.ntmps53
      go_wp2_with (fail)
      refine (isStamp_any _ _ _).mono ?_
      rintro e w1 ⟨rfl, hch1⟩
      rw [hs1.out]
      have a1 := a0.keep hch1 (by simp)
      have c1 := h0.trans hch1 (by simp)
      have y5 := a1.cell 5
      have y6 := a1.cell 6
      have y7 := a1.cell 7
      simp only [List.getElem?_toArray, List.getElem?_cons_zero, List.getElem?_cons_succ] at y5 y6 y7
      cases s1
      · go_wp2_with (fail)
        go_ret
        exact Fin.out false rfl _ c1
      · go_wp2_with (fail)
        refine (isStamp_any _ _ _).mono ?_
        rintro e w2 ⟨rfl, hch2⟩
        rw [hs2.out]
        have a2 := a1.keep hch2 (by simp)
        have c2 := c1.trans hch2 (by simp)
        have z7 := a2.cell 7
        simp only [List.getElem?_toArray, List.getElem?_cons_zero, List.getElem?_cons_succ] at z7
        clear y5 y6 y7
        cases s2
        · go_wp2_with (fail)
          go_ret
          exact Fin.out false rfl _ c2
        · by_cases hl0 : ls.length = 0
          · have e3 := hl3.out
            rw [decide_eq_true hl0] at e3
            subst e3
            have hli : ((ls.length : Int) == 0) = true := by rw [hl0]; rfl
            have HL0 := Lib.hid hl0
            clear hl0
            go_wp2_with (fail)
            go_ret
            exact Fin.out true rfl _ c2
          · have e3 := hl3.out
            rw [decide_eq_false hl0] at e3
            subst e3
            have hli : ((ls.length : Int) == 0) = false := by rw [beq_eq_false_iff_ne]; omega
            have HL0 := Lib.hid hl0
            clear hl0
            go_wp2_with (fail)
            go_ret
            exact Fin.out false rfl _ c2
    subst esc
    by_cases efm : fm = 0
    rotate_left
    · go_enter Try.func53, Try.ntmps53
      go_wp2_with (fail)
      refine (isStamp_any _ _ _).mono ?_
      rintro e w1 ⟨rfl, hch1⟩
      rw [hs1.out]
      have a1 := a0.keep hch1 (by simp)
      have c1 := h0.trans hch1 (by simp)
      have y5 := a1.cell 5
      have y6 := a1.cell 6
      have y7 := a1.cell 7
      simp only [List.getElem?_toArray, List.getElem?_cons_zero, List.getElem?_cons_succ] at y5 y6 y7
      cases s1
      · go_wp2_with (fail)
        go_ret
        exact Fin.out false rfl _ c1
      · go_wp2_with (fail)
        refine (isStamp_any _ _ _).mono ?_
        rintro e w2 ⟨rfl, hch2⟩
        rw [hs2.out]
        have a2 := a1.keep hch2 (by simp)
        have c2 := c1.trans hch2 (by simp)
        have z7 := a2.cell 7
        simp only [List.getElem?_toArray, List.getElem?_cons_zero, List.getElem?_cons_succ] at z7
        clear y5 y6 y7
        cases s2
        · go_wp2_with (fail)
          go_ret
          exact Fin.out false rfl _ c2
        · by_cases hl0 : ls.length = 0
          · have e3 := hl3.out
            rw [decide_eq_true hl0] at e3
            subst e3
            have hli : ((ls.length : Int) == 0) = true := by rw [hl0]; rfl
            have HL0 := Lib.hid hl0
            clear hl0
            go_wp2_with (fail)
            go_ret
            exact Fin.out true rfl _ c2
          · have e3 := hl3.out
            rw [decide_eq_false hl0] at e3
            subst e3
            have hli : ((ls.length : Int) == 0) = false := by rw [beq_eq_false_iff_ne]; omega
            have HL0 := Lib.hid hl0
            clear hl0
            go_wp2_with (fail)
            go_ret
            exact Fin.out false rfl _ c2
    subst efm
    by_cases efc : fc = 0
    rotate_left
    · go_enter Try.func53, Try.ntmps53
      go_wp2_with (fail)
      refine (isStamp_any _ _ _).mono ?_
      rintro e w1 ⟨rfl, hch1⟩
      rw [hs1.out]
      have a1 := a0.keep hch1 (by simp)
      have c1 := h0.trans hch1 (by simp)
      have y5 := a1.cell 5
      have y6 := a1.cell 6
      have y7 := a1.cell 7
      simp only [List.getElem?_toArray, List.getElem?_cons_zero, List.getElem?_cons_succ] at y5 y6 y7
      cases s1
      · go_wp2_with (fail)
        go_ret
        exact Fin.out false rfl _ c1
      · go_wp2_with (fail)
        refine (isStamp_any _ _ _).mono ?_
        rintro e w2 ⟨rfl, hch2⟩
        rw [hs2.out]
        have a2 := a1.keep hch2 (by simp)
        have c2 := c1.trans hch2 (by simp)
        have z7 := a2.cell 7
        simp only [List.getElem?_toArray, List.getElem?_cons_zero, List.getElem?_cons_succ] at z7
        clear y5 y6 y7
        cases s2
        · go_wp2_with (fail)
          go_ret
          exact Fin.out false rfl _ c2
        · by_cases hl0 : ls.length = 0
          · have e3 := hl3.out
            rw [decide_eq_true hl0] at e3
            subst e3
            have hli : ((ls.length : Int) == 0) = true := by rw [hl0]; rfl
            have HL0 := Lib.hid hl0
            clear hl0
            go_wp2_with (fail)
            go_ret
            exact Fin.out true rfl _ c2
          · have e3 := hl3.out
            rw [decide_eq_false hl0] at e3
            subst e3
            have hli : ((ls.length : Int) == 0) = false := by rw [beq_eq_false_iff_ne]; omega
            have HL0 := Lib.hid hl0
            clear hl0
            go_wp2_with (fail)
            go_ret
            exact Fin.out false rfl _ c2
    subst efc
    · go_enter Try.func53, Try.ntmps53
      go_wp2_with (fail)
      refine (isStamp_any _ _ _).mono ?_
      rintro e w1 ⟨rfl, hch1⟩
      rw [hs1.out]
      have a1 := a0.keep hch1 (by simp)
      have c1 := h0.trans hch1 (by simp)
      have y5 := a1.cell 5
      have y6 := a1.cell 6
      have y7 := a1.cell 7
      simp only [List.getElem?_toArray, List.getElem?_cons_zero, List.getElem?_cons_succ] at y5 y6 y7
      cases s1
      · go_wp2_with (fail)
        go_ret
        exact Fin.out false rfl _ c1
      · go_wp2_with (fail)
        refine (isStamp_any _ _ _).mono ?_
        rintro e w2 ⟨rfl, hch2⟩
        rw [hs2.out]
        have a2 := a1.keep hch2 (by simp)
        have c2 := c1.trans hch2 (by simp)
        have z7 := a2.cell 7
        simp only [List.getElem?_toArray, List.getElem?_cons_zero, List.getElem?_cons_succ] at z7
        clear y5 y6 y7
        cases s2
        · go_wp2_with (fail)
          go_ret
          exact Fin.out false rfl _ c2
        · by_cases hl0 : ls.length = 0
          · have e3 := hl3.out
            rw [decide_eq_true hl0] at e3
            subst e3
            have hli : ((ls.length : Int) == 0) = true := by rw [hl0]; rfl
            have HL0 := Lib.hid hl0
            clear hl0
            go_wp2_with (fail)
            go_ret
            exact Fin.out true rfl _ c2
          · have e3 := hl3.out
            rw [decide_eq_false hl0] at e3
            subst e3
            have hli : ((ls.length : Int) == 0) = false := by rw [beq_eq_false_iff_ne]; omega
            have HL0 := Lib.hid hl0
            clear hl0
            go_wp2_with (fail)
            go_ret
            exact Fin.out false rfl _ c2
  by_cases hz : sm = 0 ∧ sc = 0 ∧ fm = 0 ∧ fc = 0
  rotate_left
  · have HNN : nn = false := by rw [← hnn.out]; cases hb : (decide (sm = 0) && decide (sc = 0) && decide (fm = 0) && decide (fc = 0)) with | false => rfl | true => simp only [Bool.and_eq_true, decide_eq_true_eq] at hb; exact absurd ⟨hb.1.1.1, hb.1.1.2, hb.1.2, hb.2⟩ hz
    have HF : Hid (isW ⟨kd, o, q, sm, sc, fm, fc, ls.map RcV.r⟩ = false) := by
      unfold Hid; rw [hIs.out, HNN]; split
      · rfl
      · split
        · rfl
        · first | rfl | rw [if_neg k3]
    have hz1 : sm ≠ 0 ∨ (sm = 0 ∧ (sc ≠ 0 ∨ (sc = 0 ∧ (fm ≠ 0 ∨ (fm = 0 ∧ fc ≠ 0))))) := by omega
    clear hIs hnn hh HNN hz
    have hkk : kd = 1 ∨ kd = 2 ∨ (kd ≠ 1 ∧ kd ≠ 2) := by omega
    rcases hkk with rfl | rfl | ⟨hk1, hk2⟩ <;> rcases hz1 with hz1 | ⟨rfl, hz1 | ⟨rfl, hz1 | ⟨rfl, hz1⟩⟩⟩
    all_goals
      go_enter Try.func53, Try.ntmps53
      go_wp2_with (fail)
      go_ret
      exact ⟨by rw [HF.out]; rfl, h0⟩
  obtain ⟨rfl, rfl, rfl, rfl⟩ := hz
  have HNN : nn = true := by rw [← hnn.out]; rfl
  subst HNN
  clear hnn
  by_cases k1 : kd = 1
  · have HF : Hid (isW ⟨kd, o, q, 0, 0, 0, 0, ls.map RcV.r⟩ = goesW ⟨kd, o, q, 0, 0, 0, 0, ls.map RcV.r⟩) := by unfold Hid; rw [hIs.out, if_pos k1]; rfl
    subst k1
    clear hIs hh
    go_enter Try.func53, Try.ntmps53
    go_wp2_with (fail)
    refine (goes_any _ 1 o q 0 0 0 0 A _ c ls rfl HR.out hls (by omega) (by omega)).mono ?_
    rintro e w1 ⟨rfl, hch1⟩
    obtain ⟨s, hs⟩ : ∃ s, Hid (goesW ⟨1, o, q, 0, 0, 0, 0, ls.map RcV.r⟩ = s) := ⟨_, rfl⟩
    rw [hs.out] at HF ⊢
    go_wp2_with (fail)
    go_ret
    exact ⟨by rw [HF.out]; rfl, h0.trans hch1 (by simp)⟩
  by_cases k2 : kd = 2
  · have HF : Hid (isW ⟨kd, o, q, 0, 0, 0, 0, ls.map RcV.r⟩ = decide (ls.length = 0)) := by unfold Hid; rw [hIs.out, if_neg k1, if_pos k2, Bool.true_and]; exact decide_eq_decide.2 hrs0.out
    subst k2
    clear hIs hh k1 k3 hrs0
    by_cases hl0 : ls.length = 0
    · have HT : Hid (decide (ls.length = 0) = true) := decide_eq_true hl0
      have hli : ((ls.length : Int) == 0) = true := by rw [hl0]; rfl
      have HL0 := Lib.hid hl0
      clear hl0
      go_enter Try.func53, Try.ntmps53
      go_wp2_with (fail)
      go_ret
      exact ⟨by rw [HF.out, HT.out]; rfl, h0⟩
    · have HT : Hid (decide (ls.length = 0) = false) := decide_eq_false hl0
      have hli : ((ls.length : Int) == 0) = false := by rw [beq_eq_false_iff_ne]; omega
      have HL0 := Lib.hid hl0
      clear hl0
      go_enter Try.func53, Try.ntmps53
      go_wp2_with (fail)
      go_ret
      exact ⟨by rw [HF.out, HT.out]; rfl, h0⟩
  · have HF : Hid (isW ⟨kd, o, q, 0, 0, 0, 0, ls.map RcV.r⟩ = false) := by unfold Hid; rw [hIs.out, if_neg k1, if_neg k2, if_neg k3]
    clear hIs hh
    go_enter Try.func53, Try.ntmps53
    go_wp2_with (fail)
    go_ret
    exact ⟨by rw [HF.out]; rfl, h0⟩end Go.Proofs.Ytdfkednggjelcaa
namespace Go.Proofs.Ytdfkednggjelcaa
open Go.RowKit
set_option linter.unusedVariables false

def EncWPost (w : World) (t : List UInt8 × Nat) (e : Ending) (w' : World) : Prop := ∃ A c, e = .returned (.tuple #[.slice A t.1.length c, .int .i64 t.2]) ∧ NewB w t.1 A c w'
theorem NewB.nil {w w' : World} (h : Chg [] w w') : NewB w [] none 0 w' := ⟨Rd.nil _ _ _, Nat.le_refl _, by simp, h, .inl ⟨rfl, fun h => absurd h (by simp)⟩⟩

theorem bodyW_1 {o q : Int} {sm sc fm fc : Int} {rs : List Rc} : bodyW ⟨1, o, q, sm, sc, fm, fc, rs⟩ = encs ([1, o, q].map clamp) ++ encL rs := by simp [bodyW, numsW]
theorem bodyW_2 {o q : Int} {sm sc fm fc : Int} {rs : List Rc} : bodyW ⟨2, o, q, sm, sc, fm, fc, rs⟩ = encs ([2, o, q].map clamp) := by simp [bodyW, numsW]
theorem bodyW_3 {o q : Int} {sm sc fm fc : Int} {rs : List Rc} : bodyW ⟨3, o, q, sm, sc, fm, fc, rs⟩ = encs ([3, o, q].map clamp) ++ encs ([sm, sc, fm, fc].map clamp) := by simp [bodyW, numsW, stmpW]

set_option maxRecDepth 100000 in
set_option maxHeartbeats 6400000 in
theorem wEncode_any (w : World) (kd o q sm sc fm fc : Int) (A : Option Addr) (n c : Nat) (ls : List RcV) (hn : ls.length = n) (hr : Rd w 9 A ls.length (cRc ls)) (hrs : ∀ x ∈ ls, Rd w 1 x.A x.r.val.length (cB x.r.val)) (hls : ls.length ≤ 1099511627776) :
    Calls Try.prog 42 #[.agg #[.int .i64 kd, .int .i64 o, .int .i64 q, .int .i64 sm, .int .i64 sc, .int .i64 fm, .int .i64 fc, .slice A n c]] w
      (EncWPost w (encW ⟨kd, o, q, sm, sc, fm, fc, ls.map RcV.r⟩)) := by
  subst hn
  have RR := Lib.hid hr
  have RS := Lib.hid hrs
  have HI := Lib.hid (isW_any (w.alloc (.cells #[.int .i64 kd, .int .i64 o, .int .i64 q, .int .i64 sm, .int .i64 sc, .int .i64 fm, .int .i64 fc, .slice A ls.length c] 90)) kd o q sm sc fm fc A _ c ls rfl (hr.alloc _) hls)
  have HK := Lib.hid (fun h => isW_kind (x := ⟨kd, o, q, sm, sc, fm, fc, ls.map RcV.r⟩) h)
  have HL := Lib.hid (fun h => bodyW_len (x := ⟨kd, o, q, sm, sc, fm, fc, ls.map RcV.r⟩) h)
  have h0 := Chg.alloc (.refl [] w) (.cells #[.int .i64 kd, .int .i64 o, .int .i64 q, .int .i64 sm, .int .i64 sc, .int .i64 fm, .int .i64 fc, .slice A ls.length c] 90)
  have a0 := At.new w 90 #[.int .i64 kd, .int .i64 o, .int .i64 q, .int .i64 sm, .int .i64 sc, .int .i64 fm, .int .i64 fc, .slice A ls.length c]
  clear hr hrs
  obtain ⟨s, hs⟩ : ∃ s, Hid (isW ⟨kd, o, q, sm, sc, fm, fc, ls.map RcV.r⟩ = s) := ⟨_, rfl⟩
  rw [hs.out] at HI HK HL
  cases s
  · have HE := Lib.hid (encW_no hs.out)
    go_enter Try.func42, Try.ntmps42
    go_wp2_with (fail)
    refine HI.out.mono ?_
    rintro e w1 ⟨rfl, hch1⟩
    go_wp2_with (fail)
    go_ret2
    rw [HE.out]
    exact ⟨none, 0, rfl, NewB.nil (h0.trans hch1 (by simp))⟩
  have HE := Lib.hid (encW_yes hs.out)
  have hbl := HL.out rfl
  have HK' := HK.out rfl
  simp only at HK'
  clear HK HL
  rcases HK' with ⟨rfl, -, hg⟩ | ⟨rfl, -, -⟩ | ⟨rfl, -, -, -⟩
  · obtain ⟨hgl, hg1, hg64⟩ := goesW_iff.1 hg
    simp only [List.length_map] at hgl hg1 hg64
    have HLI : Hid (lstR (ls.map RcV.r) = (encL (ls.map RcV.r), 0)) := lstR_0 (by simpa using hg64) (fun r hr => isR_iff.2 (goesL_mem hgl r hr))
    rw [bodyW_1] at HE hbl
    clear hg hgl
    obtain ⟨EL, hEL⟩ : ∃ EL, Hid (encL (ls.map RcV.r) = EL) := ⟨_, rfl⟩
    rw [hEL.out] at HE hbl HLI
    go_enter Try.func42, Try.ntmps42
    go_wp2_with (fail)
    refine HI.out.mono ?_
    rintro e w1 ⟨rfl, hch1⟩
    have a1 := a0.keep hch1 (by simp)
    have c1 := h0.trans hch1 (by simp)
    have x0 := a1.cell 0
    have x1 := a1.cell 1
    have x2 := a1.cell 2
    have hlt1 := a1.lt
    simp only [List.getElem?_toArray, List.getElem?_cons_zero, List.getElem?_cons_succ] at x0 x1 x2
    clear HI a0 h0 hch1
    have h1 : All w1 (w1.alloc (.cells #[.slice none 0 0] 110)) [rWr w1.heap.size none 0 []] := (All.start w1).newWr rfl
    go_wp2_with (fail)
    have h2 := h1.quiet ((Chg.refl [] _).alloc (.cells #[.int .i64 1, .int .i64 o, .int .i64 q] 3))
    refine (nums_any w1.heap.size [] _ _ none 0 (some ⟨w1.heap.size + 1, 0, none⟩) 3 [1, o, q] [] (h2.get 0 rfl) (Rd.new' (by simp) rfl rfl) (by simp) (by simp) (Away.at (by simp [blk]))).mono ?_
    rintro e w3 ⟨rfl, A3, c3', hw3⟩
    have h3 := h2.wr hw3
    rw [List.nil_append] at h3
    obtain ⟨NN, hNN⟩ : ∃ NN, Hid (encs ([1, o, q].map clamp) = NN) := ⟨_, rfl⟩
    rw [hNN.out] at h3 HE hbl
    clear hw3 h2 h1 x0 x1 x2
    have a3 := a1.keep h3.chg (by simp)
    have c3 := c1.trans h3.chg (by simp)
    have y0 := a3.cell 0
    have y7 := a3.cell 7
    simp only [List.getElem?_toArray, List.getElem?_cons_zero, List.getElem?_cons_succ] at y0 y7
    go_wp2_with (fail)
    refine (recList_any _ A _ c ls rfl (RR.out.keep0 c3) (fun x hx => (RS.out x hx).keep0 c3) hls).mono ?_
    rintro e w4 ⟨A4, c4, rfl, hown4, hch4⟩
    rw [HLI.out] at hown4 ⊢
    simp only at hown4 ⊢
    have h4 := (h3.row hch4 hown4).front 1 rfl
    have hlE : EL.length ≤ 77000 := by rw [List.length_append] at hbl; omega
    have hlN : NN.length ≤ 77000 := by rw [List.length_append] at hbl; omega
    clear y0 y7 h3 hown4 hch4
    go_wp2_with (fail)
    refine (raw_any w1.heap.size (blk A3) _ _ A3 c3' A4 _ c4 EL NN (h4.get 0 rfl) rfl (Rd.of_own (h4.get 1 rfl)) (by omega) (by omega)).mono ?_
    rintro e w5 ⟨rfl, A5, c5, hw5⟩
    have h5 := h4.wr hw5
    clear hw5 h4
    generalize hP : NN ++ EL = P at *
    go_wp2_with (fail)
    refine (out_any w1.heap.size w5 (blk A5) _ A5 c5 P (h5.get 0 rfl) (by omega)).mono ?_
    rintro e w6 ⟨A6, c6, rfl, hown6, hch6⟩
    have h6 := Lib.hid (Rd.of_own hown6)
    have c6' := (c1.trans h5.chg (by simp)).trans hch6 (by simp)
    clear hown6 hch6 h5
    go_wp2_with (fail)
    refine (frEncode_any _ (some ⟨w6.heap.size, 0, none⟩) 1 1 [⟨A6, c6, P⟩] P (by simp [Hid]) rfl (Rd.new' rfl rfl rfl) (fun r hr => ?_) (by simp) (Nat.le_refl _) (by omega)).mono ?_
    · obtain rfl := List.mem_singleton.1 hr
      exact h6.out.alloc _
    rintro e w7 ⟨A7, c7, rfl, hnb⟩
    go_wp2_with (fail)
    go_ret2
    rw [HE.out]
    exact ⟨A7, c7, rfl, hnb.up (c6'.alloc _)⟩
  · rw [bodyW_2] at HE hbl
    go_enter Try.func42, Try.ntmps42
    go_wp2_with (fail)
    refine HI.out.mono ?_
    rintro e w1 ⟨rfl, hch1⟩
    have a1 := a0.keep hch1 (by simp)
    have c1 := h0.trans hch1 (by simp)
    have x0 := a1.cell 0
    have x1 := a1.cell 1
    have x2 := a1.cell 2
    have hlt1 := a1.lt
    simp only [List.getElem?_toArray, List.getElem?_cons_zero, List.getElem?_cons_succ] at x0 x1 x2
    clear HI a0 h0 hch1
    have h1 : All w1 (w1.alloc (.cells #[.slice none 0 0] 110)) [rWr w1.heap.size none 0 []] := (All.start w1).newWr rfl
    go_wp2_with (fail)
    have h2 := h1.quiet ((Chg.refl [] _).alloc (.cells #[.int .i64 2, .int .i64 o, .int .i64 q] 3))
    refine (nums_any w1.heap.size [] _ _ none 0 (some ⟨w1.heap.size + 1, 0, none⟩) 3 [2, o, q] [] (h2.get 0 rfl) (Rd.new' (by simp) rfl rfl) (by simp) (by simp) (Away.at (by simp [blk]))).mono ?_
    rintro e w3 ⟨rfl, A3, c3', hw3⟩
    have h3 := h2.wr hw3
    rw [List.nil_append] at h3
    obtain ⟨NN, hNN⟩ : ∃ NN, Hid (encs ([2, o, q].map clamp) = NN) := ⟨_, rfl⟩
    rw [hNN.out] at h3 HE hbl
    clear hw3 h2 h1 x0 x1 x2
    have a3 := a1.keep h3.chg (by simp)
    have y0 := a3.cell 0
    simp only [List.getElem?_toArray, List.getElem?_cons_zero] at y0
    generalize hP : NN = P at *
    have h5 := h3
    have A5e : A3 = A3 := rfl
    go_wp2_with (fail)
    refine (out_any w1.heap.size w3 (blk A3) _ A3 c3' P (h5.get 0 rfl) (by omega)).mono ?_
    rintro e w6 ⟨A6, c6, rfl, hown6, hch6⟩
    have h6 := Lib.hid (Rd.of_own hown6)
    have c6' := (c1.trans h5.chg (by simp)).trans hch6 (by simp)
    clear hown6 hch6 h5
    go_wp2_with (fail)
    refine (frEncode_any _ (some ⟨w6.heap.size, 0, none⟩) 1 1 [⟨A6, c6, P⟩] P (by simp [Hid]) rfl (Rd.new' rfl rfl rfl) (fun r hr => ?_) (by simp) (Nat.le_refl _) (by omega)).mono ?_
    · obtain rfl := List.mem_singleton.1 hr
      exact h6.out.alloc _
    rintro e w7 ⟨A7, c7, rfl, hnb⟩
    go_wp2_with (fail)
    go_ret2
    rw [HE.out]
    exact ⟨A7, c7, rfl, hnb.up (c6'.alloc _)⟩
  · rw [bodyW_3] at HE hbl
    go_enter Try.func42, Try.ntmps42
    go_wp2_with (fail)
    refine HI.out.mono ?_
    rintro e w1 ⟨rfl, hch1⟩
    have a1 := a0.keep hch1 (by simp)
    have c1 := h0.trans hch1 (by simp)
    have x0 := a1.cell 0
    have x1 := a1.cell 1
    have x2 := a1.cell 2
    have hlt1 := a1.lt
    simp only [List.getElem?_toArray, List.getElem?_cons_zero, List.getElem?_cons_succ] at x0 x1 x2
    clear HI a0 h0 hch1
    have h1 : All w1 (w1.alloc (.cells #[.slice none 0 0] 110)) [rWr w1.heap.size none 0 []] := (All.start w1).newWr rfl
    go_wp2_with (fail)
    have h2 := h1.quiet ((Chg.refl [] _).alloc (.cells #[.int .i64 3, .int .i64 o, .int .i64 q] 3))
    refine (nums_any w1.heap.size [] _ _ none 0 (some ⟨w1.heap.size + 1, 0, none⟩) 3 [3, o, q] [] (h2.get 0 rfl) (Rd.new' (by simp) rfl rfl) (by simp) (by simp) (Away.at (by simp [blk]))).mono ?_
    rintro e w3 ⟨rfl, A3, c3', hw3⟩
    have h3 := h2.wr hw3
    rw [List.nil_append] at h3
    obtain ⟨NN, hNN⟩ : ∃ NN, Hid (encs ([3, o, q].map clamp) = NN) := ⟨_, rfl⟩
    rw [hNN.out] at h3 HE hbl
    clear hw3 h2 h1 x0 x1 x2
    have a3 := a1.keep h3.chg (by simp)
    have y0 := a3.cell 0
    have y3 := a3.cell 3
    have y4 := a3.cell 4
    have y5 := a3.cell 5
    have y6 := a3.cell 6
    simp only [List.getElem?_toArray, List.getElem?_cons_zero, List.getElem?_cons_succ] at y0 y3 y4 y5 y6
    go_wp2_with (fail)
    have h4 := h3.quiet ((Chg.refl [] _).alloc (.cells #[.int .i64 sm, .int .i64 sc, .int .i64 fm, .int .i64 fc] 3))
    have hlN : NN.length ≤ 77000 := by rw [List.length_append] at hbl; omega
    have zB := (h3.rng 0 rfl w1.heap.size (by simp [rWr])).2
    refine (nums_any w1.heap.size (blk A3) _ _ A3 c3' (some ⟨w3.heap.size, 0, none⟩) 4 [sm, sc, fm, fc] NN (h4.get 0 rfl) (Rd.new' rfl rfl rfl) (by simp) (by omega) (Away.at (fun hx => ?_))).mono ?_
    · have := (h3.rng 0 rfl _ hx).2
      omega
    rintro e w5 ⟨rfl, A5, c5, hw5⟩
    have h5 := h4.wr hw5
    clear hw5 h4 h3 y0 y3 y4 y5 y6
    generalize hP : NN ++ encs ([sm, sc, fm, fc].map clamp) = P at *
    go_wp2_with (fail)
    refine (out_any w1.heap.size w5 (blk A5) _ A5 c5 P (h5.get 0 rfl) (by omega)).mono ?_
    rintro e w6 ⟨A6, c6, rfl, hown6, hch6⟩
    have h6 := Lib.hid (Rd.of_own hown6)
    have c6' := (c1.trans h5.chg (by simp)).trans hch6 (by simp)
    clear hown6 hch6 h5
    go_wp2_with (fail)
    refine (frEncode_any _ (some ⟨w6.heap.size, 0, none⟩) 1 1 [⟨A6, c6, P⟩] P (by simp [Hid]) rfl (Rd.new' rfl rfl rfl) (fun r hr => ?_) (by simp) (Nat.le_refl _) (by omega)).mono ?_
    · obtain rfl := List.mem_singleton.1 hr
      exact h6.out.alloc _
    rintro e w7 ⟨A7, c7, rfl, hnb⟩
    go_wp2_with (fail)
    go_ret2
    rw [HE.out]
    exact ⟨A7, c7, rfl, hnb.up (c6'.alloc _)⟩
end Go.Proofs.Ytdfkednggjelcaa
namespace Go.Proofs.Ytdfkednggjelcaa
open Go.RowKit
set_option linter.unusedVariables false

def DecWPost (w : World) (t : Wd × Nat) (e : Ending) (w' : World) : Prop := ∃ x : WdV, e = .returned (.tuple #[.agg x.cells.toArray, .int .i64 (t.2 : Nat)]) ∧ x.d = t.1 ∧
  w'.ownsRow w.heap.size 51 9 (.slice x.A x.ls.length x.cp) x.ls.length (cRc x.ls) ∧ (∀ r ∈ x.ls, OwnV w' w.heap.size r) ∧ Chg [] w w'
theorem wd_size : (Try.prog.info? 90).map (·.size) = some 8 := by kernel_rfl
/-- A word and something else are handed back. -/
theorem ret_wd2 {fn : Func} {p q : Tmp} {tmps : Array Value} {w : World} {g : Nat} {T : TypeId} {cs : Array Value} {v : Value} {Post : Ending → World → Prop} (hs : cs.size = 8) (h : fn.results = #[.cell p 90, .tmp q])
    (hp : tmps.getD p undef = .pointer (some ⟨g, 0, none⟩)) (hq : tmps.getD q undef = v) (hg : At w g T cs) (hpost : Post (.returned (.tuple #[.agg cs, v])) w) :
    bodyPost Try.prog fn Post Exit.ret ⟨tmps, []⟩ w := by
  refine bodyPost_ret (v := .tuple #[.agg cs, v]) ?_ rfl hpost
  have hp' : tmps[p]?.getD undef = .pointer (some ⟨g, 0, none⟩) := by simpa using hp
  have hq' : tmps[q]?.getD undef = v := by simpa using hq
  simp [results, h, hp', hq', asAddr, run_loadVar_row w g T 90 _ (0, 0) _ hg Try.underlying90 rfl (wd_size.trans (by rw [hs]))]
theorem At.set8 {w : World} {g : Nat} {t : TypeId} {v0 v1 v2 v3 v4 v5 v6 v7 : Value} (h : At w g t #[v0, v1, v2, v3, v4, v5, v6, v7]) (u0 u1 u2 u3 u4 u5 u6 u7 : Value) : At ((((((((w.setCell ⟨g, 0, none⟩ u0).setCell ⟨g, 1, none⟩ u1).setCell ⟨g, 2, none⟩ u2).setCell ⟨g, 3, none⟩ u3).setCell ⟨g, 4, none⟩ u4).setCell ⟨g, 5, none⟩ u5).setCell ⟨g, 6, none⟩ u6).setCell ⟨g, 7, none⟩ u7) g t #[u0, u1, u2, u3, u4, u5, u6, u7] := by
  simpa using (((((((h.set_ 0 u0).set_ 1 u1).set_ 2 u2).set_ 3 u3).set_ 4 u4).set_ 5 u5).set_ 6 u6).set_ 7 u7
theorem Chg.set8 {S : List Nat} {a w : World} (h : Chg S a w) {g : Nat} (hg : g ∈ S ∨ a.heap.size ≤ g) (u0 u1 u2 u3 u4 u5 u6 u7 : Value) : Chg S a ((((((((w.setCell ⟨g, 0, none⟩ u0).setCell ⟨g, 1, none⟩ u1).setCell ⟨g, 2, none⟩ u2).setCell ⟨g, 3, none⟩ u3).setCell ⟨g, 4, none⟩ u4).setCell ⟨g, 5, none⟩ u5).setCell ⟨g, 6, none⟩ u6).setCell ⟨g, 7, none⟩ u7) :=
  (((((((h.setCell (p := ⟨g, 0, none⟩) hg u0).setCell (p := ⟨g, 1, none⟩) hg u1).setCell (p := ⟨g, 2, none⟩) hg u2).setCell (p := ⟨g, 3, none⟩) hg u3).setCell (p := ⟨g, 4, none⟩) hg u4).setCell (p := ⟨g, 5, none⟩) hg u5).setCell (p := ⟨g, 6, none⟩) hg u6).setCell (p := ⟨g, 7, none⟩) hg u7
theorem DecWPost.no {w w' : World} {t : Wd × Nat} (n : Nat) (ht : t = (Wd.z, n)) (h : Chg [] w w') : DecWPost w t (.returned (.tuple #[.agg #[.int .i64 0, .int .i64 0, .int .i64 0, .int .i64 0, .int .i64 0, .int .i64 0, .int .i64 0, .slice none 0 0], .int .i64 n])) w' := by
  subst ht
  exact ⟨⟨0, 0, 0, 0, 0, 0, 0, none, [], 0⟩, rfl, rfl, own_none _ _ _ _, by simp, h⟩
theorem DecWPost.yes {w w' : World} {t : Wd × Nat} (x : WdV) {cs : Array Value} (hcs : cs = x.cells.toArray) (ht : t = (x.d, 0)) (ho : w'.ownsRow w.heap.size 51 9 (.slice x.A x.ls.length x.cp) x.ls.length (cRc x.ls)) (hv : ∀ r ∈ x.ls, OwnV w' w.heap.size r) (h : Chg [] w w') : DecWPost w t (.returned (.tuple #[.agg cs, .int .i64 0])) w' := by
  subst ht hcs
  exact ⟨x, rfl, rfl, ho, hv, h⟩
theorem oneF_len {L : List UInt8} : (oneF L).1.length ≤ 262144 := by
  by_cases he : (decF L).e = 0
  · by_cases hn : (decF L).n = L.length
    · rw [oneF_0 he hn]; have := decF_zero he; simp only; omega
    · rw [oneF_3 he hn]; simp
  · rw [oneF_e he]; simp
theorem decW_e {L : List UInt8} (h : (oneF L).2 ≠ 0) : decW L = (Wd.z, (oneF L).2) := by unfold decW; rw [if_pos h]
theorem decW_3 {L : List UInt8} (h : (oneF L).2 = 0) {x : Wd} {b : Bool} (hx : readW (oneF L).1 = (x, b)) (hn : (b && isW x) = false) : decW L = (Wd.z, 3) := by
  unfold decW; rw [if_neg (by simpa using h), hx]; simp only [hn]; rfl
theorem decW_0 {L : List UInt8} (h : (oneF L).2 = 0) {x : Wd} (hx : readW (oneF L).1 = (x, true)) (hn : isW x = true) : decW L = (x, 0) ∧ encF (bodyW x) = L := by
  constructor
  · unfold decW; rw [if_neg (by simpa using h), hx]; simp only [hn]; rfl
  · have h1 := readW_good (p := (oneF L).1) (by rw [hx]) (by rw [hx]; exact hn)
    rw [hx] at h1
    simp only at h1
    rw [h1]
    exact (oneF_good h).symm
theorem takeRaw_all (X : List UInt8) (b : Bool) : takeRaw X b (X.length : Int) = (X, [], b) := by
  unfold takeRaw
  rw [if_pos ⟨by omega, by omega⟩]
  simp
theorem readW_1 {p : List UInt8} {o q : Nat} {X : List UInt8} {b : Bool} (h0 : numAt p false 0 = 1) (h1 : numAt p false 1 = o) (h2 : numAt p false 2 = q) (h3 : numsSt p false 3 = (X, b)) : readW p = (⟨1, o, q, 0, 0, 0, 0, (decL X).getD []⟩, !b && (decL X).isSome) := by
  unfold readW; rw [if_pos h0, h1, h2, h3]
theorem readW_3 {p : List UInt8} {o q : Nat} {X : List UInt8} {b : Bool} (h0 : numAt p false 0 = 3) (h1 : numAt p false 1 = o) (h2 : numAt p false 2 = q) (h3 : numsSt p false 3 = (X, b)) : readW p = (⟨3, o, q, numAt X b 0, numAt X b 1, numAt X b 2, numAt X b 3, []⟩, !(numsSt X b 4).2 && decide ((numsSt X b 4).1 = [])) := by
  unfold readW; rw [if_neg (by omega), if_pos h0, h1, h2, h3]
theorem readW_2 {p : List UInt8} {k o q : Nat} {X : List UInt8} {b : Bool} (h0 : numAt p false 0 = k) (h1 : numAt p false 1 = o) (h2 : numAt p false 2 = q) (h3 : numsSt p false 3 = (X, b)) (hk1 : k ≠ 1) (hk3 : k ≠ 3) : readW p = (⟨k, o, q, 0, 0, 0, 0, []⟩, !b && decide (X = [])) := by
  unfold readW; rw [if_neg (by omega), if_neg (by omega), h0, h1, h2, h3]

end Go.Proofs.Ytdfkednggjelcaa
namespace Go.Proofs.Ytdfkednggjelcaa
open Go.RowKit
set_option linter.unusedVariables false

/-- 'heavy' is told: where it says no, records are no more than is looked at. -/
def HeavyW (most : Nat) (ls : List RcV) (w : World) (e : Ending) (w' : World) : Prop := ∃ hv : Bool, e = .returned (.bool hv) ∧ (hv = false → 20 * ls.length + (ls.map fun x => x.r.key.length + x.r.val.length).sum ≤ most) ∧ Chg [] w w'

theorem isW_ack : isW ⟨2, 1, 5, 0, 0, 0, 0, []⟩ = true := by decide
end Go.Proofs.Ytdfkednggjelcaa
