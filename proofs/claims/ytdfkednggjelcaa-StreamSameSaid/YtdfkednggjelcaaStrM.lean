
/-
  StreamSame: the walk of the law.
-/
import Derived.Test.YtdfkednggjelcaaStrOn
import Derived.Test.YtdfkednggjelcaaWirG
import Derived.Test.YtdfkednggjelcaaMine
import Derived.OpenShut
namespace Go.Proofs.Ytdfkednggjelcaa
open Go.RowKit
set_option linter.unusedVariables false

/-- All that was set so far. -/
def SetS (f : Int) (k : Nat) (l : List RcV) : Prop := ∀ j (h : j < l.length), j < k → isR l[j].r = true ∧ l[j].r.o = 2 ∧ l[j].r.q = f + j

set_option maxRecDepth 100000 in
set_option maxHeartbeats 6400000 in
theorem streamSame_law (w : World) (x : Sl RcV) (hx : Rd w 9 x.A x.ls.length (x.ls.flatMap RcV.cells) ∧ x.ls.length ≤ x.c ∧ x.c ≤ maxLen ∧ x.ls.length * 96 ≤ 140737488351232 ∧ ∀ a ∈ x.ls, a.In w) (f : Int) (hf : (Lit.int .i64 f).wf = true) :
    Calls Try.prog 5 #[.slice x.A x.ls.length x.c, .int .i64 f] w fun e w' => e = .returned (.bool true) ∧ Chg [] w w' := by
  obtain ⟨i1, hi1, hy0, hy1, hy2⟩ := info_parts info_rec
  obtain ⟨A, c, ls⟩ := x
  obtain ⟨rx, hxc, _, hxl, hxs⟩ := hx
  simp only at rx hxc hxl hxs ⊢
  have RX : Hid (Rd w 9 A ls.length (cRc ls)) := rx
  have RV : Hid (∀ x ∈ ls, Rd w 1 x.A x.r.val.length (cB x.r.val)) := fun x hx => (hxs x hx).rd
  have HB : Hid (∀ x ∈ ls, x.r.key.length ≤ 140737488351232 ∧ x.r.val.length ≤ 140737488351232) := fun x hx => ⟨(hxs x hx).kl, (hxs x hx).vl⟩
  clear rx hxs hf
  go_enter Try.func5, Try.ntmps5
  go_wp2_with (fail)
  refine (heavyL_any _ A _ c ls rfl RX.out (by omega) HB.out).mono ?_
  rintro e w1 ⟨hv1, rfl, hlight, hch1⟩
  cases hv1
  rotate_left
  · go_wp2_with (fail)
    go_ret
    exact ⟨rfl, hch1⟩
  clear hlight hxc hxl
  by_cases h8 : 8 < ls.length
  · go_wp2_with (fail)
    go_ret
    exact ⟨rfl, hch1⟩
  by_cases hz : ls.length = 0
  · have hzb : ((ls.length : Int) == 0) = true := by rw [hz]; rfl
    have HZ := Lib.hid hz
    clear hz
    go_wp2_with (fail)
    go_ret
    exact ⟨rfl, hch1⟩
  have hzb : ((ls.length : Int) == 0) = false := by rw [beq_eq_false_iff_ne]; omega
  have h8b : decide ((8 : Int) < (ls.length : Int)) = false := decide_eq_false (by omega)
  by_cases hf1 : f < 1
  · go_wp2_with (fail)
    go_ret
    exact ⟨rfl, hch1⟩
  by_cases hf2 : 549755813888 < f
  · go_wp2_with (fail)
    go_ret
    exact ⟨rfl, hch1⟩
  have hs1 := hch1.size
  have hf1b : decide (f < 1) = false := decide_eq_false (by omega)
  have hf2b : decide (549755813888 < f) = false := decide_eq_false (by omega)
  go_wp2_with (at_builtin; refine wpList_append_rd _ rfl (.tmp 35) (.tmp 36) 25 (by rfl) w1.heap.size 51 i1 _ 9 96 Try.underlying25 hi1 hy0 hy1 hy2 rfl (by omega) (.slice (some ⟨w1.heap.size, 0, none⟩) 0 0) 0 [] (by rfl) (World.ownsRow_made w1 #[] 0 (Nat.le_refl _) (by simp [maxLen]) rfl) A ls.length c (cRc ls) (by rfl) ((RX.out.keep0 hch1).alloc _) (cRc_one _) (by unfold maxLen; omega) (by omega) (by simp) ?_; intro A2 c2 w2 hown2 hgr2 hb2; simp only [Nat.zero_add, List.nil_append] at hown2; have hch2 : Chg [] w1 w2 := ((Chg.refl [] _).alloc _).grown hgr2 (fun k hk => .inr (by simp [Value.ownBlock] at hk; omega)); have cc2 := hch1.trans hch2 (by simp); clear hgr2 hb2)
  obtain ⟨ad, rfl, hM⟩ := Mine.of_own (w0 := w) hown2 hs1 rfl (by omega)
  clear hown2 hch2 hch1 hs1
  go_loopw [6] (fun i wr => ∃ (k : Nat) (ms : List RcV), k ≤ ls.length ∧ i = .int .i64 k ∧ ms.length = ls.length ∧ Hid (SetS f k ms) ∧ Hid (∀ x ∈ ms, Rd w 1 x.A x.r.val.length (cB x.r.val) ∧ x.r.val.length ≤ 140737488351232) ∧ Hid (Mine w wr ad ms) ∧ Hid (Chg [] w wr)) (fun i _ => ls.length - (intOf i).toNat)
  case atStart => exact ⟨0, ls, Nat.zero_le _, rfl, rfl, fun j h hj => by omega, fun x hx => ⟨RV.out x hx, (HB.out x hx).2⟩, hM, cc2⟩
  case round =>
    clear hM cc2
    obtain ⟨k, ms, hk, rfl, hml, HS, HV, HM, HC⟩ := hrel
    by_cases hlt : k < ls.length
    · have hltm : k < ms.length := by omega
      obtain ⟨pb, po, hp, hps, hpb0, hpb1, c0, hcs, f0, hfs⟩ := HM.out.at_ hltm
      have c1 := hcs 1 _ rfl
      have c2 := hcs 2 _ rfl
      have c3 := hcs 3 _ rfl
      have c4 := hcs 4 _ rfl
      have c5 := hcs 5 _ rfl
      have c6 := hcs 6 _ rfl
      have c7 := hcs 7 _ rfl
      have c8 := hcs 8 _ rfl
      have f1' := hfs 1
      have f5' := hfs 5
      have HPS := Lib.hid hps
      clear hcs hfs hps
      have hkl : (k : Int) < (ls.length : Int) := by omega
      have m1 := HM.out.set hltm (j := 0) (by omega) hp (u := .int .i64 2) (x := ⟨⟨2, ms[k].r.q, ms[k].r.key, ms[k].r.m, ms[k].r.c, ms[k].r.vo, ms[k].r.val, ms[k].r.gone, ms[k].r.ttl⟩, ms[k].A, ms[k].cp⟩) rfl
      have m2 := m1.again (p := ⟨pb, po + 3 + 2, none⟩) hltm (j := 5) (by omega) (HPS.out 5) (u := .int .i64 2) (x := ⟨⟨2, ms[k].r.q, ms[k].r.key, ms[k].r.m, ms[k].r.c, 2, ms[k].r.val, ms[k].r.gone, ms[k].r.ttl⟩, ms[k].A, ms[k].cp⟩) rfl
      have m3 := m2.again hltm (j := 1) (by omega) (HPS.out 1) (u := .int .i64 (f + (k : Int))) (x := ⟨⟨2, f + (k : Int), ms[k].r.key, ms[k].r.m, ms[k].r.c, 2, ms[k].r.val, ms[k].r.gone, ms[k].r.ttl⟩, ms[k].A, ms[k].cp⟩) rfl
      have HM3 := Lib.hid m3
      have HC3 : Hid (Chg [] w _) := ((HC.out.setCell (p := ⟨pb, po, none⟩) (.inr hpb0) (.int .i64 2)).setCell (p := ⟨pb, po + 3 + 2, none⟩) (.inr hpb0) (.int .i64 2)).setCell (p := ⟨pb, po + 1, none⟩) (.inr hpb0) (.int .i64 (f + (k : Int)))
      have HV3 : Hid (∀ x ∈ ms.set k ⟨⟨2, f + (k : Int), ms[k].r.key, ms[k].r.m, ms[k].r.c, 2, ms[k].r.val, ms[k].r.gone, ms[k].r.ttl⟩, ms[k].A, ms[k].cp⟩, Rd w 1 x.A x.r.val.length (cB x.r.val) ∧ x.r.val.length ≤ 140737488351232) := fun x hx => by
        rcases List.mem_or_eq_of_mem_set hx with h | rfl
        · exact HV.out x h
        · exact HV.out ms[k] (List.getElem_mem hltm)
      have HS3 : Hid (isR ⟨2, f + (k : Int), ms[k].r.key, ms[k].r.m, ms[k].r.c, 2, ms[k].r.val, ms[k].r.gone, ms[k].r.ttl⟩ = true → SetS f (k + 1) (ms.set k ⟨⟨2, f + (k : Int), ms[k].r.key, ms[k].r.m, ms[k].r.c, 2, ms[k].r.val, ms[k].r.gone, ms[k].r.ttl⟩, ms[k].A, ms[k].cp⟩)) := fun h j hj hjk => by
        by_cases e : j = k
        · subst e; rw [List.getElem_set_self]; exact ⟨h, rfl, rfl⟩
        · rw [List.getElem_set_ne (Ne.symm e)]
          exact HS.out j (by simpa using hj) (by omega)
      have HL3 : Hid ((ms.set k ⟨⟨2, f + (k : Int), ms[k].r.key, ms[k].r.m, ms[k].r.c, 2, ms[k].r.val, ms[k].r.gone, ms[k].r.ttl⟩, ms[k].A, ms[k].cp⟩).length = ls.length) := by unfold Hid; simpa using hml
      clear m1 m2 m3 HM HV HS
      generalize ms[k] = r at *
      obtain ⟨⟨ro, rq, key, m, c', vo, val, gone, ttl⟩, A', cp⟩ := r
      simp only at c0 c1 c2 c3 c4 c5 c6 c7 c8 HM3 HC3 HV3 HS3 HL3
      obtain ⟨s, hs⟩ : ∃ s, Hid (isR ⟨2, f + (k : Int), key, m, c', 2, val, gone, ttl⟩ = s) := ⟨_, rfl⟩
      generalize hms2 : ms.set k ⟨⟨2, f + (k : Int), key, m, c', 2, val, gone, ttl⟩, A', cp⟩ = ms2 at *
      clear hms2
      go_wp2_with (fail)
      refine (refIsR_tt _ 2 (f + (k : Int)) key m c' 2 A' val cp gone ttl s hs.out).mono ?_
      rintro e w4 ⟨rfl, hch4⟩
      have HM4 := Lib.hid (HM3.out.keep hch4)
      have HC4 := Lib.hid (HC3.out.trans hch4 (by simp))
      clear hch4 c0 c1 c2 c3 c4 c5 c6 c7 c8 f0 f1' f5' HM3 HC3 HPS
      cases s
      · go_wp2_with (go_at_call 11; (with_reducible refine (knownL_any _).mono ?_); rintro e w9 ⟨rfl, hch9⟩)
        go_ret
        exact ⟨rfl, HC4.out.trans hch9 (by simp)⟩
      · have HS4 := Lib.hid (HS3.out hs.out)
        clear HS3 hs
        go_wp2_with (fail)
        go_roundw
        case rel => exact ⟨k + 1, ms2, by omega, by go_num, HL3.out, HS4, HV3, HM4, HC4⟩
        case measure => simp [intOf]; omega
    · obtain rfl : k = ls.length := by omega
      have HST : Hid (SetS f ms.length ms) := by unfold Hid; rw [hml]; exact HS.out
      have HML := Lib.hid hml
      have HOK : Hid (okL 2 (ms.map RcV.r) = true) := okL_iff.2 fun r hr => by
        obtain ⟨x, hx, rfl⟩ := List.mem_map.1 hr
        obtain ⟨j, hj, rfl⟩ := List.getElem_of_mem hx
        exact ⟨(HST.out j hj hj).1, (HST.out j hj hj).2.1⟩
      have HQ : Hid (∀ i (h : i < (ms.map RcV.r).length), (ms.map RcV.r)[i].q = f + i) := fun i h => by
        rw [List.getElem_map]; exact (HST.out i (by simpa using h) (by simpa using h)).2.2
      have HSN : Hid (sendO ⟨2, 0, f - 1, f - 1, 0⟩ (ms.map RcV.r) = (encF (bodyW ⟨1, 2, f, 0, 0, 0, 0, ms.map RcV.r⟩), 0, ⟨2, 0, f - 1, max (f - 1) (f + (ms.map RcV.r).length - 1), 0⟩)) := sendO_yes (o := ⟨2, 0, f - 1, f - 1, 0⟩) (f := f) HOK.out (by rw [List.length_map]; omega) (by rw [List.length_map]; omega) HQ.out (by show ¬ f ≤ f - 1; omega) (by show ¬ f - 1 + 1 < f; omega)
      have hW : Hid (isW ⟨1, 2, f, 0, 0, 0, 0, ms.map RcV.r⟩ = true) := isW_send (a := 2) (f := f) (by omega) (by omega) HOK.out (by rw [List.length_map]; omega) (by rw [List.length_map]; omega) HQ.out
      have HDW := Lib.hid (decW_enc hW.out)
      have HTK : Hid (takeN 2 (f - 1) 0 (ms.map RcV.r) = ms.map RcV.r) := takeN_all (fun r hr => okL_iff.1 HOK.out r hr) (fun i hi => by rw [HQ.out i hi]; push_cast; omega)
      have hel := encF_len (bodyW ⟨1, 2, f, 0, 0, 0, 0, ms.map RcV.r⟩)
      have hel2 := bodyW_len hW.out
      obtain ⟨E, hE⟩ : ∃ E, Hid (encF (bodyW ⟨1, 2, f, 0, 0, 0, 0, ms.map RcV.r⟩) = E) := ⟨_, rfl⟩
      rw [hE.out] at hel HDW HSN
      have hEl : E.length ≤ 1000000 := by omega
      have hway1 : Hid (isWayS 2 0 (f - 1) = true) := isWayS_iff.2 ⟨by omega, by omega, by omega, by omega, by omega, by omega, by omega⟩
      have hway2 : Hid (isWayS 0 2 (f - 1) = true) := isWayS_iff.2 ⟨by omega, by omega, by omega, by omega, by omega, by omega, by omega⟩
      have hok1 : Hid (OSt.Ok ⟨2, 0, f - 1, f - 1, 0⟩) := ⟨by show (0 : Int) ≤ 2; omega, by show (2 : Int) < 5; omega, by show (0 : Int) ≤ 0; omega, by show (0 : Int) < 5; omega, by show 0 ≤ f - 1; omega, by show f - 1 ≤ f - 1; omega, by show f - 1 ≤ _; omega, by show (0 : Int) ≤ 0; omega, by show (0 : Int) ≤ _; omega⟩
      clear HS HOK HQ hW hel hel2 hE HST
      go_wp2_with (fail)
      refine (newOut_yes _ 2 0 (f - 1) hway1.out).mono ?_
      rintro e w2 ⟨go, rfl, hgo, hO2, hch2⟩
      go_wp2_with (fail)
      refine (newIn_yes _ 0 2 (f - 1) hway2.out).mono ?_
      rintro e w3 ⟨gi, rfl, hgi, hI3, hch3⟩
      have hO3 := hO2.keep hch3 (by simp)
      have hch13 := hch2.trans hch3 (by simp)
      have HM3 := Lib.hid (HM.out.keep hch13)
      have HC3 := Lib.hid (HC.out.trans hch13 (by simp))
      have hgow : w.heap.size ≤ go := by have := HC.out.size; omega
      have hgog : go < w3.heap.size := hO3.lt
      have hgne : gi ≠ go := by have := hO2.lt; omega
      have hadne : ad.block ≠ go := by have := HM.out.lt; omega
      have hgiw : w.heap.size ≤ gi := by have := HC.out.size; have := hch2.size; omega
      clear hO2 hch2 hch3 hch13 HM HC
      go_wp2_with (fail)
      refine (send_any w3 go ⟨2, 0, f - 1, f - 1, 0⟩ hO3 hok1.out (some ad) _ c2 ms HML.out HM3.out.rd (fun x hx => ((HV.out x hx).1).keep0 HC3.out) (by have := HML.out; omega)).mono ?_
      rw [HSN.out]
      rintro e w4 ⟨A4, c4, msg, rfl, hm4, hn4, hO4, hch4⟩
      simp only at hm4 ⊢
      have hms1 : Hid (msg.map MgV.p = [(2, 0, E)]) := hm4.1
      have HI4 := Lib.hid (hI3.keep hch4 (by simp; exact hgne))
      have HMr : Hid (Rd w4 9 (some ad) ms.length (cRc ms)) := HM3.out.rd.keep hch4 (fun _ k hk hm => by simp [blk] at hk hm; omega)
      have HC4 : Hid (Chg [] w w4) := HC3.out.trans hch4 (by simp; omega)
      obtain ⟨mg, rfl⟩ : ∃ mg, msg = [mg] := by
        have h := congrArg List.length hms1.out
        rw [List.length_map] at h
        match msg, h with
        | [mg], _ => exact ⟨mg, rfl⟩
      obtain ⟨mf, mt, md, mA, mc⟩ := mg
      have hmp := hms1.out
      simp only [List.map_cons, List.map_nil, MgV.p, List.cons.injEq, Prod.mk.injEq, and_true] at hmp
      obtain ⟨rfl, rfl, rfl⟩ := hmp
      have RD4 : Hid (Rd w4 1 mA md.length (cB md)) := hm4.2.2 ⟨2, 0, md, mA, mc⟩ (by simp)
      have hmc : Hid (md.length ≤ mc) := hn4.2.2 ⟨2, 0, md, mA, mc⟩ (by simp)
      obtain ⟨ma, rfl, hma, -, -, hm2⟩ := hm4.2.1.getM (k := 0) (by simp)
      rw [Nat.zero_mul, add_zero] at hm2
      simp only [List.getElem_cons_zero] at hm2
      clear hm4 hn4 hO4 hch4 hI3 hO3 HM3 HC3 hms1
      go_wp2_with (fail)
      refine (refDecW_any w4 mA _ mc md rfl RD4.out hmc.out (by omega)).mono ?_
      rw [HDW.out]
      rintro e w5 ⟨⟨xk, xo, xq, xsm, xsc, xfm, xfc, A5, l5, c5⟩, rfl, hx5, hown5, hO5, hch5⟩
      simp only [WdV.d, Wd.mk.injEq] at hx5
      obtain ⟨rfl, rfl, rfl, rfl, rfl, rfl, rfl, hx5⟩ := hx5
      simp only [WdV.cells] at hown5 hO5 ⊢
      have HX5 := Lib.hid hx5
      have HL5 : Hid (l5.length = ls.length) := by
        have h := congrArg List.length hx5
        rw [List.length_map, List.length_map] at h
        exact h.trans HML.out
      have R5 := Lib.hid (Rd.of_own hown5)
      have O5 : Hid (∀ x ∈ l5, Rd w5 1 x.A x.r.val.length (cB x.r.val)) := fun x hx => Rd.of_own (hO5 x hx)
      have HC5 := Lib.hid (HC4.out.trans hch5 (by simp))
      have HI5 := Lib.hid (HI4.out.keep hch5 (by simp))
      have HM5 := Lib.hid (HMr.out.keep0 hch5)
      clear hx5 hown5 hO5 hch5 HC4 HI4 HMr
      have HVL5 : Hid (∀ x ∈ l5, x.r.val.length ≤ 140737488351232) := fun x hx => by
        have h1 : x.r ∈ ms.map RcV.r := by rw [← HX5.out]; exact List.mem_map_of_mem hx
        obtain ⟨y, hy, h2⟩ := List.mem_map.1 h1
        rw [← h2]
        exact (HV.out y hy).2
      have HVM : Hid (∀ w', Chg [] w5 w' → ∀ x ∈ ms, Rd w' 1 x.A x.r.val.length (cB x.r.val)) := fun w' hc x hx => ((HV.out x hx).1.keep0 HC5.out).keep0 hc
      have hl8 : l5.length ≤ 8 := by have := HL5.out; omega
      have q5 : Hid (Chg [] w5 (w5.alloc (.cells #[.int .i64 1, .int .i64 2, .int .i64 xq, .int .i64 0, .int .i64 0, .int .i64 0, .int .i64 0, .slice A5 l5.length c5] 59))) := (Chg.refl _ _).alloc _
      go_wp2_with (first
        | (go_at_call 14; (with_reducible refine (take_any _ gi 0 2 (xq - 1) (HI5.out.al _) (by omega) (by omega) A5 _ c5 l5 rfl (R5.out.alloc _) (fun x hx => (O5.out x hx).alloc _) (by omega) HVL5.out).mono ?_); rw [HX5.out, HTK.out]; rintro e w6 ⟨A6, c6, l6, rfl, hl6, hown6, hO6, hch6⟩; have HR6 := Lib.hid (Rd.of_own hown6); have hc6 : Hid (Chg [] w5 w6) := q5.out.trans hch6 (by simp); have hll6 : Hid (l6.length = ls.length) := (by have h := congrArg List.length hl6.out; rw [List.length_map, List.length_map] at h; exact h.trans HML.out); have O6 : Hid (∀ x ∈ l6, Rd w6 1 x.A x.r.val.length (cB x.r.val)) := (fun x hx => Rd.of_own (hO6.out x hx)); clear hown6 hch6 hO6)
        | (go_at_call 16; (with_reducible refine (records_yes w6 A6 (some ad) _ _ c6 c2 l6 ms hl6.out rfl HML.out HR6.out (HM5.out.keep0 hc6.out) O6.out (HVM.out w6 hc6.out) (by have := hll6.out; omega)).mono ?_); rintro e w7 ⟨rfl, hch7⟩)
        | (go_at_call 11; (with_reducible refine (knownL_any _).mono ?_); rintro e w9 ⟨rfl, hch9⟩))
      go_ret
      exact ⟨rfl, ((HC5.out.trans hc6.out (by simp)).trans hch7 (by simp)).trans hch9 (by simp)⟩
end Go.Proofs.Ytdfkednggjelcaa
