
/-
  net: slices.DeleteFunc; Drop.
-/
import Derived.Test.YtbgdcplbekoemaaNetDr
import Derived.Test.YtbgdcplbekoemaaHeldE
namespace Go.Proofs.Ytbgdcplbekoemaa
open Go.RowKit
set_option linter.unusedVariables false
set_option linter.unusedSimpArgs false

theorem set4 {α : Type} : ∀ (l : List α) (m : Nat) (a b c d : α), m + 4 ≤ l.length → ((((l.set m a).set (m + 1) b).set (m + 2) c).set (m + 3) d).take (m + 4) = l.take m ++ [a, b, c, d]
  | x0 :: x1 :: x2 :: x3 :: l, 0, a, b, c, d, _ => by simp
  | x :: l, m + 1, a, b, c, d, h => by
    have := set4 l m a b c d (by simp at h; omega)
    simpa [Nat.add_right_comm m 1] using this
  | [], m, _, _, _, _, h => by simp at h
  | [_], 0, _, _, _, _, h => by simp at h
  | [_, _], 0, _, _, _, _, h => by simp at h
  | [_, _, _], 0, _, _, _, _, h => by simp at h
theorem set4_far {α : Type} (l : List α) (m : Nat) (a b c d : α) {i : Nat} (h : m + 4 ≤ i) : ((((l.set m a).set (m + 1) b).set (m + 2) c).set (m + 3) d)[i]? = l[i]? := by
  rw [List.getElem?_set_ne (by omega), List.getElem?_set_ne (by omega), List.getElem?_set_ne (by omega), List.getElem?_set_ne (by omega)]
theorem cut_at (g c k : Nat) (h : c ≠ k) : cutA (some ⟨g, 0, none⟩) c k 4 = some ⟨g, k * 4, none⟩ := by
  unfold cutA
  rw [if_neg h]
  show some ((⟨g, 0, none⟩ : Addr).add (k * 4)) = _
  congr 1
  unfold Addr.add
  split <;> simp_all
section
variable {w0 w w' : World} {gn g gb : Nat} {A B : Option Addr} {c n cb : Nat} {ms : List UdV} {ids : List Int} {l : List MV} {rs : List Res}
/-- What the row's cells are while it is gone through. -/
structure DelS (wr : World) (g c : Nat) (ms : List UdV) (ids : List Int) (q : Nat) (cur : List Value) : Prop where
  at_ : At wr g 59 cur.toArray
  len : cur.length = c * 4
  kept : cur.take ((stayU ids (ms.take q)).length * 4) = cUd (stayU ids (ms.take q))
  rest : ∀ p r, q ≤ p → p < ms.length → r < 4 → cur[p * 4 + r]? = (cUd ms)[p * 4 + r]?
theorem DelS.cell {cur : List Value} (h : DelS w g c ms ids n cur) {p : Nat} (hp : p < ms.length) (hq : n ≤ p) {r : Nat} (hr : r < 4) {u : Value} (hu : (ms[p].cells)[r]? = some u) : w.cell? ⟨g, p * 4 + r, none⟩ = some u := by
  rw [h.at_.cell, List.getElem?_toArray, h.rest p r hq hp hr, cUd_get hp hr, hu]
set_option maxRecDepth 100000 in
set_option maxHeartbeats 6400000 in
theorem deleteF_any (h : w.ownsRow w0.heap.size 59 4 (.slice A ms.length c) ms.length (cUd ms)) (hl : ms.length ≤ 1000000) (hat : At w gb 23 #[.slice B n cb]) (hR : ∀ w', Chg (blk A) w w' → Rd w' 1 B ids.length (cI ids)) (hn : ids.length = n) (hil : ids.length ≤ 140737488355328) :
    Calls Try.prog 35 #[.slice A ms.length c, .func (Fn.func 36) #[] #[.pointer (some ⟨gb, 0, none⟩)]] w fun e w' => e = .returned (.slice A (stayU ids ms).length c) ∧ w'.ownsRow w0.heap.size 59 4 (.slice A (stayU ids ms).length c) (stayU ids ms).length (cUd (stayU ids ms)) ∧ Chg (blk A) w w' := by
  have HIX := Lib.hid (indexF_any h hl ⟨hat, hR w (Chg.refl _ _)⟩ hn hil)
  have HH := Lib.hid h
  have HAT := Lib.hid hat
  have HRR := Lib.hid hR
  clear h hat hR
  go_enter Try.func35, Try.ntmps35
  go_wp2_with (fail)
  refine HIX.out.mono ?_
  rintro e w1 ⟨r, rfl, hc1, ⟨rfl, hall⟩ | ⟨q0, rfl, hq0, hoff, hbefore⟩⟩
  · have HS := Lib.hid (stayU_all hall)
    have HO := Lib.hid (own_k0 HH.out hc1)
    have HC := Lib.hid hc1
    clear HIX hall hc1
    go_wp2_with (fail)
    go_ret
    rw [HS.out]
    exact ⟨rfl, HO.out, HC.out.mono (by simp)⟩
  obtain ⟨g, rfl⟩ : ∃ g, A = some ⟨g, 0, none⟩ := by
    rcases HH.out.2 with ⟨_, h4⟩ | ⟨g, cap, cur, h4, _⟩
    · omega
    · injection h4 with h4; exact ⟨g, h4⟩
  have HO1 := own_k0 HH.out hc1
  have hgb : w0.heap.size ≤ g := (own_in HO1 g (by simp [blk])).1
  have HGB := Lib.hid hgb
  have HGBN : Hid (gb ∉ [g]) := fun hm => own_at_ne HO1 (HAT.out.keep hc1 (by simp)) (by decide) g rfl (by simp at hm; exact hm.symm)
  obtain ⟨_, ⟨h3, _⟩ | ⟨g', cap, cur, h3, hb, hh, hnc, hcm, hcs, htk⟩⟩ := HO1
  · cases h3
  injection h3 with h3 _ hcc
  injection h3 with h3
  injection h3 with h3
  subst h3 hcc
  have hat1 : At w1 g 59 cur.toList.toArray := by rw [Array.toArray_toList]; exact hh
  have hst0 : stayU ids (ms.take (q0 + 1)) = ms.take q0 := by
    rw [List.take_succ_eq_append_getElem hq0, stayU_snoc, if_pos hoff, stayU_all hbefore]
  have hlt0 : (ms.take q0).length = q0 := by rw [List.length_take]; omega
  have HST : Hid (DelS w1 g c ms ids (q0 + 1) cur.toList) := by
    refine ⟨hat1, by simpa using hcs, ?_, fun p r h1 h2 h3 => ?_⟩
    · rw [hst0, hlt0, ← cUd_take, ← htk, List.take_take, Nat.min_eq_left (by omega)]
    · rw [← htk, List.getElem?_take_of_lt (by omega)]
  have HL0 : Hid ((stayU ids (ms.take (q0 + 1))).length = q0) := by unfold Hid; rw [hst0, hlt0]
  have HC1 : Hid (Chg [g] w w1) := hc1.mono (by simp)
  have HNC := Lib.hid hnc
  have HCM := Lib.hid hcm
  have hq0b : ((q0 : Int) == -1) = false := by rw [beq_eq_false_iff_ne]; omega
  have hw0 : IntKind.i64.wrap ((q0 : Int) + 1) = (q0 : Int) + 1 := IntWalk.i64_in _ (by omega)
  clear HIX hat1 hh htk hcs hb hbefore hoff hst0 hlt0 hgb hc1 hnc hcm
  go_wp2_with (fail)
  go_loopw [5, 6] (fun i j wr => ∃ (q k : Nat) (cur : List Value), q ≤ ms.length ∧ j = .int .i64 q ∧ i = .int .i64 k ∧ k < q ∧ Hid ((stayU ids (ms.take q)).length = k) ∧ Hid (DelS wr g c ms ids q cur) ∧ Hid (Chg [g] w wr)) (fun _ j _ => ms.length - (intOf j).toNat)
  case atStart => exact ⟨q0 + 1, q0, cur.toList, hq0, by go_num, rfl, by omega, HL0, HST, HC1⟩
  case round =>
    clear HL0 HST HC1
    obtain ⟨q, k, cur, hq, rfl, rfl, hkq, HLK, HS, HC⟩ := hrel
    have hnc := HNC.out
    by_cases hlt : q < ms.length
    · have hqi : (q : Int) < (ms.length : Int) := by omega
      have r0 := HS.out.cell hlt (Nat.le_refl _) (r := 0) (by omega) rfl
      have r1 := HS.out.cell hlt (Nat.le_refl _) (r := 1) (by omega) rfl
      have r2 := HS.out.cell hlt (Nat.le_refl _) (r := 2) (by omega) rfl
      have r3 := HS.out.cell hlt (Nat.le_refl _) (r := 3) (by omega) rfl
      rw [Nat.add_zero] at r0
      have HSN : Hid (stayU ids (ms.take (q + 1)) = if offN ids ms[q].f ms[q].t then stayU ids (ms.take q) else stayU ids (ms.take q) ++ [ms[q]]) := by
        unfold Hid; rw [List.take_succ_eq_append_getElem hlt, stayU_snoc]
      have hgl := HS.out.at_.lt
      generalize ms[q] = x at *
      obtain ⟨xf, xt, xd, xA, xc, xs⟩ := x
      simp only at r0 r1 r2 r3 HSN
      have qv := (Chg.refl [] wr).alloc (.cells #[.int .i64 xf, .int .i64 xt, .slice xA xd.length xc, .bool xs] 59)
      have HCV : Hid (Chg [g] w (wr.alloc (.cells #[.int .i64 xf, .int .i64 xt, .slice xA xd.length xc, .bool xs] 59))) := HC.out.trans qv (by simp)
      have HSV := Lib.hid (HS.out.at_.keep qv (by simp))
      have HV := Lib.hid (At.new wr 59 #[.int .i64 xf, .int .i64 xt, .slice xA xd.length xc, .bool xs])
      have HCC := Lib.hid ((show ClP (wr.alloc (.cells #[.int .i64 xf, .int .i64 xt, .slice xA xd.length xc, .bool xs] 59)) gb B n cb ids from ⟨HAT.out.keep HCV.out HGBN.out, HRR.out _ (HCV.out)⟩).call hn hil xf xt xA xd.length xc xs)
      have v0 := HV.out.cell 0
      have v1 := HV.out.cell 1
      have v2 := HV.out.cell 2
      have v3 := HV.out.cell 3
      simp only [List.getElem?_toArray, List.getElem?_cons_zero, List.getElem?_cons_succ] at v0 v1 v2 v3
      have hne : ¬ wr.heap.size = g := by omega
      cases hb : offN ids xf xt
      · rw [hb] at HCC HSN
        go_wp2_with (fail)
        refine HCC.out.mono ?_
        rintro e w2 ⟨rfl, hc2⟩
        have HC2 : Hid (Chg [g] w w2) := HCV.out.trans hc2 (by simp)
        have HA2 := Lib.hid (HSV.out.keep hc2 (by simp))
        have HV2 := Lib.hid (HV.out.keep hc2 (by simp))
        have HCL := Lib.hid HS.out.len
        have HKE := Lib.hid HS.out.kept
        have HRE := Lib.hid HS.out.rest
        have y0 := HV2.out.cell 0
        have y1 := HV2.out.cell 1
        have y2 := HV2.out.cell 2
        have y3 := HV2.out.cell 3
        simp only [List.getElem?_toArray, List.getElem?_cons_zero, List.getElem?_cons_succ] at y0 y1 y2 y3
        have hz : ∀ r, r < 4 → ∃ z, w2.cell? ⟨g, k * 4 + r, none⟩ = some z := fun r hr => by
          rw [HA2.out.cell, List.getElem?_toArray]
          exact ⟨_, List.getElem?_eq_getElem (by rw [HCL.out]; omega)⟩
        obtain ⟨z0, hz0⟩ := hz 0 (by omega)
        obtain ⟨z1, hz1⟩ := hz 1 (by omega)
        obtain ⟨z2, hz2⟩ := hz 2 (by omega)
        obtain ⟨z3, hz3⟩ := hz 3 (by omega)
        rw [Nat.add_zero] at hz0
        have f0 := HA2.out.free (k * 4)
        have f1 := HA2.out.free (k * 4 + 1)
        have f2 := HA2.out.free (k * 4 + 2)
        have f3 := HA2.out.free (k * 4 + 3)
        have hki : (k : Int) < (ms.length : Int) := by omega
        have hwk : IntKind.i64.wrap ((k : Int) + 1) = (k : Int) + 1 := IntWalk.i64_in _ (by omega)
        clear r0 r1 r2 r3 v0 v1 v2 v3 hz qv hc2 HCC HSV HV HS
        go_wp2_with (fail)
        have HA4 : Hid (At ((((w2.setCell ⟨g, k * 4, none⟩ (.int .i64 xf)).setCell ⟨g, k * 4 + 1, none⟩ (.int .i64 xt)).setCell ⟨g, k * 4 + 2, none⟩ (.slice xA xd.length xc)).setCell ⟨g, k * 4 + 3, none⟩ (.bool xs)) g 59 ((((cur.set (k * 4) (.int .i64 xf)).set (k * 4 + 1) (.int .i64 xt)).set (k * 4 + 2) (.slice xA xd.length xc)).set (k * 4 + 3) (.bool xs)).toArray) := (((HA2.out.setL _ _).setL _ _).setL _ _).setL _ _
        have HC4 : Hid (Chg [g] w ((((w2.setCell ⟨g, k * 4, none⟩ (.int .i64 xf)).setCell ⟨g, k * 4 + 1, none⟩ (.int .i64 xt)).setCell ⟨g, k * 4 + 2, none⟩ (.slice xA xd.length xc)).setCell ⟨g, k * 4 + 3, none⟩ (.bool xs))) := (((HC2.out.setCell (.inl (by simp)) _).setCell (.inl (by simp)) _).setCell (.inl (by simp)) _).setCell (.inl (by simp)) _
        have HSN2 : Hid (stayU ids (ms.take (q + 1)) = stayU ids (ms.take q) ++ [⟨xf, xt, xd, xA, xc, xs⟩]) := HSN.out
        have HLK2 : Hid ((stayU ids (ms.take (q + 1))).length = k + 1) := by unfold Hid; rw [HSN2.out, List.length_append, HLK.out]; rfl
        have HS4 : Hid (DelS ((((w2.setCell ⟨g, k * 4, none⟩ (.int .i64 xf)).setCell ⟨g, k * 4 + 1, none⟩ (.int .i64 xt)).setCell ⟨g, k * 4 + 2, none⟩ (.slice xA xd.length xc)).setCell ⟨g, k * 4 + 3, none⟩ (.bool xs)) g c ms ids (q + 1) ((((cur.set (k * 4) (.int .i64 xf)).set (k * 4 + 1) (.int .i64 xt)).set (k * 4 + 2) (.slice xA xd.length xc)).set (k * 4 + 3) (.bool xs))) := by
          refine ⟨HA4.out, by simp [HCL.out], ?_, fun p r h1 h2 h3 => ?_⟩
          · rw [HLK2.out, show (k + 1) * 4 = k * 4 + 4 by omega, set4 _ _ _ _ _ _ (by rw [HCL.out]; omega), HSN2.out, cUd_app]
            have h9 := HKE.out
            rw [HLK.out] at h9
            rw [h9]; rfl
          · rw [set4_far _ _ _ _ _ _ (by omega)]
            exact HRE.out p r (by omega) h2 h3
        clear HA4 HA2 HV2 HC2 HKE HRE HCL hz0 hz1 hz2 hz3 y0 y1 y2 y3 f0 f1 f2 f3
        go_roundw
        case rel => exact ⟨q + 1, k + 1, _, by omega, by go_num, by go_num, by omega, HLK2, HS4, HC4⟩
        case measure => simp [intOf]; omega
      · rw [hb] at HCC HSN
        go_wp2_with (fail)
        refine HCC.out.mono ?_
        rintro e w2 ⟨rfl, hc2⟩
        have HC2 : Hid (Chg [g] w w2) := HCV.out.trans hc2 (by simp)
        have HSN2 : Hid (stayU ids (ms.take (q + 1)) = stayU ids (ms.take q)) := HSN.out
        have HS2 : Hid (DelS w2 g c ms ids (q + 1) cur) := ⟨HSV.out.keep hc2 (by simp), HS.out.len, by rw [HSN2.out]; exact HS.out.kept, fun p r h1 h2 h3 => HS.out.rest p r (by omega) h2 h3⟩
        have HLK2 : Hid ((stayU ids (ms.take (q + 1))).length = k) := by unfold Hid; rw [HSN2.out]; exact HLK.out
        clear r0 r1 r2 r3 v0 v1 v2 v3 qv hc2 HCC HSV HV HS
        go_wp2_with (fail)
        go_roundw
        case rel => exact ⟨q + 1, k, cur, by omega, by go_num, rfl, by omega, HLK2, HS2, HC2⟩
        case measure => simp [intOf]; omega
    · obtain rfl : q = ms.length := by omega
      have hqi : ¬ (ms.length : Int) < (ms.length : Int) := by omega
      obtain ⟨hA, hL, hK, _⟩ := HS.out
      rw [List.take_length] at HLK hK
      obtain ⟨i0, hii, hz0, hz1, hz2⟩ := info_parts info_und
      have hsL := fun w => run_slice_lo (P := Try.prog) w Try.underlying54 hii hz1 (some ⟨g, 0, none⟩) ms.length c (k : Int) k rfl (by omega)
      rw [cut_at g c k (by omega)] at hsL
      have hsH := fun w => run_slice_hi (P := Try.prog) w Try.underlying54 hii (some ⟨g, 0, none⟩) ms.length c (k : Int) k rfl (by omega)
      have hZs : (Value.agg #[.int .i64 0, .int .i64 0, .slice none 0 0, .bool false]).cells.size = 4 := by kernel_rfl
      have hzl : (Builtin.zeroCells (Value.agg #[.int .i64 0, .int .i64 0, .slice none 0 0, .bool false]).cells (ms.length - k)).toList.length = (ms.length - k) * 4 := by simp [Builtin.zeroCells, hZs]
      have hone : ∀ v ∈ (Builtin.zeroCells (Value.agg #[.int .i64 0, .int .i64 0, .slice none 0 0, .bool false]).cells (ms.length - k)).toList, v.oneCell' = true := fun v hv => by
        unfold Builtin.zeroCells at hv
        rw [hZs] at hv
        simp only [Array.toList_map, List.mem_map] at hv
        obtain ⟨i, _, rfl⟩ := hv
        have h4 : i % 4 = 0 ∨ i % 4 = 1 ∨ i % 4 = 2 ∨ i % 4 = 3 := by omega
        rcases h4 with e | e | e | e <;> rw [e] <;> rfl
      have HRUN := Lib.hid (fun ty => run_clear (P := Try.prog) wr 54 59 ty Try.underlying54 _ (by simp [zeroValue, typeInfo, hii, hz0]) g (k * 4) (ms.length - k) (c - k) (by omega)
        (fun j hj => by
          rw [hA.cell, List.getElem?_toArray]
          rw [hZs] at hj
          rw [List.getElem?_eq_getElem (by rw [hL]; omega)]; rfl) (fun j _ => hA.free _) hone)
      have HAZ := Lib.hid (At.setCells (Builtin.zeroCells (Value.agg #[.int .i64 0, .int .i64 0, .slice none 0 0, .bool false]).cells (ms.length - k)).toList (k * 4) (by rw [hzl, hL]; omega) hA)
      have HCZ := Lib.hid (Chg.setCells (g := g) (Builtin.zeroCells (Value.agg #[.int .i64 0, .int .i64 0, .slice none 0 0, .bool false]).cells (ms.length - k)).toList (k * 4) HC.out (.inl (by simp)))
      have HL := Lib.hid hL
      have HK := Lib.hid hK
      have HZL := Lib.hid hzl
      clear hA hL hK hzl hone hZs HS HC
      go_wp2_with (fail)
      rw [HRUN.out]
      go_wp2_with (fail)
      go_ret
      rw [HLK.out]
      refine ⟨rfl, ⟨?_, .inr ⟨g, c, _, rfl, HGB.out, HAZ.out, by omega, HCM.out, ?_, ?_⟩⟩, HCZ.out⟩
      · rw [cUd_len, HLK.out]
      · simp only [List.size_toArray, List.length_append, List.length_take, List.length_drop, HZL.out, HL.out]; omega
      · rw [List.toList_toArray, List.append_assoc, List.take_left' (by rw [List.length_take, HL.out]; omega)]
        have h9 := HK.out
        rw [HLK.out] at h9
        exact h9
set_option maxRecDepth 100000 in
set_option maxHeartbeats 3200000 in
theorem drop_H (h : NetH w0 w gn A c ms) (hl : ms.length ≤ 1024) {gi : Nat} (hg : At w gi 3 (cI ids).toArray) (hil : ids.length ≤ 140737488355328) (hcb : cb = cb) :
    Calls Try.prog 23 #[.pointer (some ⟨gn, 0, none⟩), .slice (some ⟨gi, 0, none⟩) ids.length cb] w fun e w' => e = .returned (.int .i64 ((ms.length : Int) - ((stayU ids ms).length : Int))) ∧ NetH w0 w' gn A c (stayU ids ms) ∧ Chg (gn :: blk A) w w' := by
  have q := (Chg.refl [] w).alloc (.cells #[.slice (some ⟨gi, 0, none⟩) ids.length cb] 23)
  have HN := Lib.hid (h.keep q)
  have HG := Lib.hid (hg.keep q (by simp))
  have HB := Lib.hid (At.new w 23 #[.slice (some ⟨gi, 0, none⟩) ids.length cb])
  have HQ := Lib.hid q
  clear h hg q
  go_enter Try.func23, Try.ntmps23
  go_wp2_with (fail)
  generalize w.alloc (.cells #[.slice (some ⟨gi, 0, none⟩) ids.length cb] 23) = wb at *
  generalize w.heap.size = gb at *
  refine (len_net w0 wb gn A c ms HN.out).mono ?_
  rintro e w1 ⟨rfl, hw1⟩
  rw [← hw1] at HN HG HB HQ
  clear hw1
  by_cases h0 : ms.length = 0
  · have hms : ms = [] := List.eq_nil_of_length_eq_zero h0
    subst hms
    have hw2 : IntKind.i64.wrap ((0 : Int) - 0) = 0 := by rfl
    go_wp2_with (fail)
    refine (len_net w0 w1 gn A c [] HN.out).mono ?_
    rintro e w2 ⟨rfl, rfl⟩
    go_wp2_with (fail)
    go_ret
    exact ⟨rfl, HN.out, HQ.out.mono (by simp)⟩
  have hb0 : decide ((0 : Int) < (ms.length : Int)) = true := decide_eq_true (by omega)
  have c0 : w1.cell? ⟨gn, 0, none⟩ = some (.slice A ms.length c) := (HN.out.at_.cell 0).trans rfl
  go_wp2_with (fail)
  refine (deleteF_any HN.out.row (by omega) HB.out (fun w' hc => Rd.of_at (HG.out.keep hc (fun hm => own_at_ne HN.out.row HG.out (by decide) gi (ob _ _ _ gi hm) rfl)) (by rw [cI_len]; omega)) rfl hil).mono ?_
  rintro e w2 ⟨rfl, hown, hc⟩
  have hgA : gn ∉ blk A := fun hm => own_at_ne HN.out.row HN.out.at_ (by decide) gn (ob _ _ _ gn hm) rfl
  have X2 := Lib.hid (HN.out.at_.keep hc hgA)
  have hd : ∀ m ∈ ms, w2.ownsRow w0.heap.size 5 1 (.slice m.A m.d.length m.cp) m.d.length (cB m.d) := fun m hm => own_keep (HN.out.dat m hm) hc (fun j hj hm2 => own_ne1 (HN.out.dat m hm) HN.out.row (by decide) j hj (ob _ _ _ _ hm2))
  have HD2 := Lib.hid hd
  have HO2 := Lib.hid hown
  have HC2 := Lib.hid hc
  have y0 := X2.out.cell 0
  have fy0 := X2.out.free 0
  clear hd hown hc c0 hgA
  go_wp2_with (fail)
  have q7 : Chg [gn] w2 (w2.setCell ⟨gn, 0, none⟩ (.slice A (stayU ids ms).length c)) := (Chg.refl _ _).setCell (.inl (by simp)) _
  have H7 : Hid (NetH w0 (w2.setCell ⟨gn, 0, none⟩ (.slice A (stayU ids ms).length c)) gn A c (stayU ids ms)) := by
    refine ⟨?_, own_keep HO2.out q7 (fun j hj hm => own_at_ne HO2.out X2.out (by decide) j hj (by simpa using hm)), fun m hm => own_keep (HD2.out m ((List.mem_filter.1 hm).1)) q7 (fun j hj hm2 => own_at_ne (HD2.out m ((List.mem_filter.1 hm).1)) X2.out (by decide) j hj (by simpa using hm2)), HN.out.new, ?_⟩
    · have h := X2.out.set_ 0 (.slice A (stayU ids ms).length c)
      simpa using h
    · exact (HN.out.chg.trans HC2.out (fun x hx => .inr (own_in HN.out.row x hx).1)).trans q7 (by have := HN.out.new; simp; omega)
  have HC7 : Hid (Chg (gn :: blk A) w (w2.setCell ⟨gn, 0, none⟩ (.slice A (stayU ids ms).length c))) := ((HQ.out.mono (T := gn :: blk A) (by simp)).trans (HC2.out.mono (fun x hx => .inl (List.mem_cons_of_mem _ hx))) (fun x hx => .inl hx)).trans q7 (by simp)
  have hle := stayU_le ids ms
  have hw2 : IntKind.i64.wrap ((ms.length : Int) - ((stayU ids ms).length : Int)) = (ms.length : Int) - ((stayU ids ms).length : Int) := IntWalk.i64_in _ (by omega)
  clear q7 HO2 HD2 X2 HC2 y0 fy0 HN HG HB HQ
  generalize w2.setCell ⟨gn, 0, none⟩ (.slice A (stayU ids ms).length c) = w7 at *
  refine (len_net w0 w7 gn A c _ H7.out).mono ?_
  rintro e w8 ⟨rfl, rfl⟩
  go_wp2_with (fail)
  go_ret
  exact ⟨rfl, H7.out, HC7.out⟩
/-- Messages that stay. -/
def dropL (l : List MV) (ids : List Int) : List MV := l.filter fun m => !(offN ids m.f m.t)
theorem dropL_map (ids : List Int) (ms : List UdV) : dropL (ms.map UdV.val) ids = (stayU ids ms).map UdV.val := by
  unfold dropL stayU
  rw [List.filter_map]; rfl
theorem datF_stay (ids : List Int) (ms : List UdV) : (datF (stayU ids ms)).Sublist (datF ms) := by
  unfold datF stayU
  induction ms with
  | nil => exact List.Sublist.refl _
  | cons a l ih =>
    rw [List.filter_cons]
    split
    · rw [List.flatMap_cons, List.flatMap_cons]; exact (List.Sublist.refl _).append ih
    · rw [List.flatMap_cons]; exact ih.trans (List.sublist_append_right _ _)
theorem drop_all (h : NetA w0 w gn l rs) (hl : l.length ≤ 1024) {gi : Nat} (hg : At w gi 3 (cI ids).toArray) (hil : ids.length ≤ 140737488355328) (cb : Nat) :
    Calls Try.prog 23 #[.pointer (some ⟨gn, 0, none⟩), .slice (some ⟨gi, 0, none⟩) ids.length cb] w fun e w' => e = .returned (.int .i64 ((l.length : Int) - ((dropL l ids).length : Int))) ∧ NetA w0 w' gn (dropL l ids) rs ∧ w.heap.size ≤ w'.heap.size := by
  obtain ⟨A, c, ms, rfl, H⟩ := h
  rw [List.length_map] at hl
  refine (drop_H (NetH.of_all H) hl hg hil rfl).mono ?_
  rintro e w' ⟨rfl, h1, hc⟩
  refine ⟨by rw [dropL_map, List.length_map, List.length_map], ⟨A, c, stayU ids ms, (dropL_map ids ms).symm, NetH.head H (hc.mono (fun j hj => .inl ?_)) h1 (fun j hj => .inl (List.mem_cons_of_mem _ (List.mem_append_left _ hj))) (fun j hj => .inl (List.mem_cons_of_mem _ (List.mem_append_right _ ((datF_stay ids ms).subset hj)))) (H.datF.sublist (datF_stay ids ms))⟩, hc.size⟩
  rcases List.mem_cons.1 hj with rfl | hj
  · exact List.mem_cons_self
  · exact List.mem_cons_of_mem _ (List.mem_append_left _ hj)
end
end Go.Proofs.Ytbgdcplbekoemaa
