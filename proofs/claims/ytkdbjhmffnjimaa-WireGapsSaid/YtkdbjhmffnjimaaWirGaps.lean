
/-
  WireGaps: the walk of the law.
-/
import Derived.Test.YtkdbjhmffnjimaaWirA2
import Derived.Test.YtkdbjhmffnjimaaWirA3
import Derived.Test.YtkdbjhmffnjimaaMine
import Derived.Test.YtkdbjhmffnjimaaMask
import Derived.OpenShut
namespace Go.Proofs.Ytkdbjhmffnjimaa
open Go.RowKit
set_option linter.unusedVariables false

/-- All that was set so far. -/
def SetTo (k : Nat) (l : List RcV) : Prop := ∀ j (h : j < l.length), j < k → isR l[j].r = true ∧ l[j].r.o = 1 ∧ l[j].r.q = 1 + j
theorem isW_gaps {l : List RcV} (h : SetTo l.length l) (h1 : 1 ≤ l.length) (h2 : l.length ≤ 64) : isW ⟨1, 1, 1, 0, 0, 0, 0, l.map RcV.r⟩ = true := by
  have hg : goesL 1 1 (l.map RcV.r) = true := goesL_iff.2 fun i hi => by
    obtain ⟨a, b, c⟩ := h i (by simpa using hi) (by simpa using hi)
    simp only [List.getElem_map]
    exact ⟨a, b, c⟩
  simp [isW, headW, noneW, goesW, hg, h1, h2]
theorem isW_gap {l : List Rc} {i : Nat} (hi : i < l.length) (h : l[i].o ≠ 1 ∨ l[i].q ≠ 1 + (i : Int)) : isW ⟨1, 1, 1, 0, 0, 0, 0, l⟩ = false := by
  have hg : goesL 1 1 l = false := goesL_no hi (.inr h)
  simp [isW, goesW, hg]

set_option maxRecDepth 100000 in
set_option maxHeartbeats 6400000 in
theorem wireGaps_law (w : World) (x : Sl RcV) (hx : Rd w 9 x.A x.ls.length (x.ls.flatMap RcV.cells) ∧ x.ls.length ≤ x.c ∧ x.c ≤ maxLen ∧ x.ls.length * 96 ≤ 140737488351232 ∧ ∀ a ∈ x.ls, a.In w) (at' : Int) (hat : (Lit.int .i64 at').wf = true) (way : Int) (hway : (Lit.int .i64 way).wf = true) :
    Calls Try.prog 6 #[.slice x.A x.ls.length x.c, .int .i64 at', .int .i64 way] w fun e w' => e = .returned (.bool true) ∧ Chg [] w w' := by
  obtain ⟨i1, hi1, hy0, hy1, hy2⟩ := info_parts info_rec
  obtain ⟨A, c, ls⟩ := x
  obtain ⟨rx, hxc, _, hxl, hxs⟩ := hx
  simp only at rx hxc hxl hxs ⊢
  have RX : Hid (Rd w 9 A ls.length (cRc ls)) := rx
  have RV : Hid (∀ x ∈ ls, Rd w 1 x.A x.r.val.length (cB x.r.val)) := fun x hx => (hxs x hx).rd
  have HB : Hid (∀ x ∈ ls, x.r.key.length ≤ 140737488351232 ∧ x.r.val.length ≤ 140737488351232) := fun x hx => ⟨(hxs x hx).kl, (hxs x hx).vl⟩
  clear rx hxs hat hway
  go_enter Try.func6, Try.ntmps6
  go_wp2_with (fail)
  refine (heavyW_any _ 0 0 0 0 0 0 0 A _ c ls rfl RX.out (by omega) HB.out).mono ?_
  rintro e w1 ⟨hv1, rfl, hlight, hch1⟩
  cases hv1
  rotate_left
  · go_wp2_with (fail)
    go_ret
    exact ⟨rfl, hch1⟩
  clear hlight hxc hxl
  by_cases h2 : ls.length < 2
  · go_wp2_with (fail)
    go_ret
    exact ⟨rfl, hch1⟩
  by_cases h64 : 64 < ls.length
  · go_wp2_with (fail)
    go_ret
    exact ⟨rfl, hch1⟩
  have hs1 := hch1.size
  go_wp2_with (at_builtin; refine wpList_append_rd _ rfl (.tmp 27) (.tmp 28) 24 (by rfl) w1.heap.size 50 i1 _ 9 96 Try.underlying24 hi1 hy0 hy1 hy2 rfl (by omega) (.slice (some ⟨w1.heap.size, 0, none⟩) 0 0) 0 [] (by rfl) (World.ownsRow_made w1 #[] 0 (Nat.le_refl _) (by simp [maxLen]) rfl) A ls.length c (cRc ls) (by rfl) ((RX.out.keep0 hch1).alloc _) (cRc_one _) (by unfold maxLen; omega) (by omega) (by simp) ?_; intro A2 c2 w2 hown2 hgr2 hb2; simp only [Nat.zero_add, List.nil_append] at hown2; have hch2 : Chg [] w1 w2 := ((Chg.refl [] _).alloc _).grown hgr2 (fun k hk => .inr (by simp [Value.ownBlock] at hk; omega)); have cc2 := hch1.trans hch2 (by simp); clear hgr2 hb2)
  obtain ⟨ad, rfl, hM⟩ := Mine.of_own (w0 := w) hown2 hs1 rfl (by omega)
  clear hown2 hch2 hch1 hs1
  go_loopw [8] (fun i wr => ∃ (k : Nat) (ms : List RcV), k ≤ ls.length ∧ i = .int .i64 k ∧ ms.length = ls.length ∧ Hid (SetTo k ms) ∧ Hid (∀ x ∈ ms, Rd w 1 x.A x.r.val.length (cB x.r.val)) ∧ Hid (Mine w wr ad ms) ∧ Hid (Chg [] w wr)) (fun i _ => ls.length - (intOf i).toNat)
  case atStart => exact ⟨0, ls, Nat.zero_le _, rfl, rfl, fun j h hj => by omega, RV, hM, cc2⟩
  case round =>
    clear hM cc2
    obtain ⟨k, ms, hk, rfl, hml, HS, HV, HM, HC⟩ := hrel
    by_cases hlt : k < ls.length
    · have hltm : k < ms.length := by omega
      obtain ⟨pb, po, hp, hps, hpb0, hpb1, c0, hcs, f0, hfs⟩ := HM.out.at_ hltm
      have c1 := hcs 1 _ rfl
      have c2 := hcs 2 _ rfl
      have c3 := hcs 3 _ rfl
      have c4 := hcs 4 _ rfl
      have c5 := hcs 5 _ rfl
      have c6 := hcs 6 _ rfl
      have c7 := hcs 7 _ rfl
      have c8 := hcs 8 _ rfl
      have f1 := hfs 1
      have f5 := hfs 5
      have HPS := Lib.hid hps
      clear hcs hfs hps
      have hkl : (k : Int) < (ls.length : Int) := by omega
      have m1 := HM.out.set hltm (j := 1) (by omega) (HPS.out 1) (u := .int .i64 (1 + (k : Int))) (x := ⟨⟨ms[k].r.o, 1 + (k : Int), ms[k].r.key, ms[k].r.m, ms[k].r.c, ms[k].r.vo, ms[k].r.val, ms[k].r.gone, ms[k].r.ttl⟩, ms[k].A, ms[k].cp⟩) rfl
      have m2 := m1.again hltm (j := 0) (by omega) hp (u := .int .i64 1) (x := ⟨⟨1, 1 + (k : Int), ms[k].r.key, ms[k].r.m, ms[k].r.c, ms[k].r.vo, ms[k].r.val, ms[k].r.gone, ms[k].r.ttl⟩, ms[k].A, ms[k].cp⟩) rfl
      have m3 := m2.again (p := ⟨pb, po + 3 + 2, none⟩) hltm (j := 5) (by omega) (HPS.out 5) (u := .int .i64 1) (x := ⟨⟨1, 1 + (k : Int), ms[k].r.key, ms[k].r.m, ms[k].r.c, 1, ms[k].r.val, ms[k].r.gone, ms[k].r.ttl⟩, ms[k].A, ms[k].cp⟩) rfl
      have HM3 := Lib.hid m3
      have HC3 : Hid (Chg [] w _) := ((HC.out.setCell (p := ⟨pb, po + 1, none⟩) (.inr hpb0) (.int .i64 (1 + (k : Int)))).setCell (p := ⟨pb, po, none⟩) (.inr hpb0) (.int .i64 1)).setCell (p := ⟨pb, po + 3 + 2, none⟩) (.inr hpb0) (.int .i64 1)
      have HV3 : Hid (∀ x ∈ ms.set k ⟨⟨1, 1 + (k : Int), ms[k].r.key, ms[k].r.m, ms[k].r.c, 1, ms[k].r.val, ms[k].r.gone, ms[k].r.ttl⟩, ms[k].A, ms[k].cp⟩, Rd w 1 x.A x.r.val.length (cB x.r.val)) := fun x hx => by
        rcases List.mem_or_eq_of_mem_set hx with h | rfl
        · exact HV.out x h
        · exact HV.out ms[k] (List.getElem_mem hltm)
      have HS3 : Hid (isR ⟨1, 1 + (k : Int), ms[k].r.key, ms[k].r.m, ms[k].r.c, 1, ms[k].r.val, ms[k].r.gone, ms[k].r.ttl⟩ = true → SetTo (k + 1) (ms.set k ⟨⟨1, 1 + (k : Int), ms[k].r.key, ms[k].r.m, ms[k].r.c, 1, ms[k].r.val, ms[k].r.gone, ms[k].r.ttl⟩, ms[k].A, ms[k].cp⟩)) := fun h j hj hjk => by
        by_cases e : j = k
        · subst e; rw [List.getElem_set_self]; exact ⟨h, rfl, rfl⟩
        · rw [List.getElem_set_ne (Ne.symm e)]
          exact HS.out j (by simpa using hj) (by omega)
      have HL3 : Hid ((ms.set k ⟨⟨1, 1 + (k : Int), ms[k].r.key, ms[k].r.m, ms[k].r.c, 1, ms[k].r.val, ms[k].r.gone, ms[k].r.ttl⟩, ms[k].A, ms[k].cp⟩).length = ls.length) := by unfold Hid; simpa using hml
      clear m1 m2 m3 HM HV HS
      generalize ms[k] = r at *
      obtain ⟨⟨ro, rq, key, m, c', vo, val, gone, ttl⟩, A', cp⟩ := r
      simp only at c0 c1 c2 c3 c4 c5 c6 c7 c8 HM3 HC3 HV3 HS3 HL3
      obtain ⟨s, hs⟩ : ∃ s, Hid (isR ⟨1, 1 + (k : Int), key, m, c', 1, val, gone, ttl⟩ = s) := ⟨_, rfl⟩
      generalize hms2 : ms.set k ⟨⟨1, 1 + (k : Int), key, m, c', 1, val, gone, ttl⟩, A', cp⟩ = ms2 at *
      clear hms2
      go_wp2_with (fail)
      refine (refIsR_tt _ 1 (1 + (k : Int)) key m c' 1 A' val cp gone ttl s hs.out).mono ?_
      rintro e w4 ⟨rfl, hch4⟩
      have HM4 := Lib.hid (HM3.out.keep hch4)
      have HC4 := Lib.hid (HC3.out.trans hch4 (by simp))
      clear hch4 c0 c1 c2 c3 c4 c5 c6 c7 c8 f0 f1 f5 HM3 HC3 HPS
      cases s
      · go_wp2_with (go_at_call 14; (with_reducible refine (knownW_any _).mono ?_); rintro e w9 ⟨rfl, hch9⟩)
        go_ret
        exact ⟨rfl, HC4.out.trans hch9 (by simp)⟩
      · have HS4 := Lib.hid (HS3.out hs.out)
        clear HS3 hs
        go_wp2_with (fail)
        go_roundw
        case rel => exact ⟨k + 1, ms2, by omega, by go_num, HL3.out, HS4, HV3, HM4, HC4⟩
        case measure => simp [intOf]; omega
    · obtain rfl : k = ls.length := by omega
      have HST : Hid (SetTo ms.length ms) := by unfold Hid; rw [hml]; exact HS.out
      have hW : Hid (isW ⟨1, 1, 1, 0, 0, 0, 0, ms.map RcV.r⟩ = true) := isW_gaps HST.out (by omega) (by omega)
      clear HS
      go_wp2_with (fail)
      refine (wEncode_any wr 1 1 1 0 0 0 0 (some ad) _ c2 ms hml HM.out.rd (fun x hx => (HV.out x hx).keep0 HC.out) (by omega)).mono ?_
      rintro e w2 ⟨A3, c3, rfl, hnb⟩
      rw [encW_yes hW.out] at hnb ⊢
      simp only at hnb ⊢
      have hel := encF_len (bodyW ⟨1, 1, 1, 0, 0, 0, 0, ms.map RcV.r⟩)
      have hch2 := hnb.2.2.2.1
      have HM2 := Lib.hid (HM.out.keep hch2)
      have HC2 := Lib.hid (HC.out.trans hch2 (by simp))
      have hEl : (encF (bodyW ⟨1, 1, 1, 0, 0, 0, 0, ms.map RcV.r⟩)).length ≤ 100000 := by
        have := bodyW_len hW.out; omega
      obtain ⟨E, hE⟩ : ∃ E, Hid (encF (bodyW ⟨1, 1, 1, 0, 0, 0, 0, ms.map RcV.r⟩) = E) := ⟨_, rfl⟩
      rw [hE.out] at hel hEl ⊢
      have hEp : (0 : Int) < (E.length : Int) := by omega
      have hEpn : 0 < E.length := by omega
      have hEd : decide (0 < E.length) = true := decide_eq_true hEpn
      have hEne : E ≠ [] := List.length_pos_iff.1 hEpn
      clear hnb hch2 HM HC hW hE hel
      obtain ⟨a, eand, ha⟩ := and16m at'
      obtain ⟨r, erand, hr⟩ := and3m way
      obtain ⟨ix, HIX⟩ : ∃ ix, Hid (a % (ls.length - 1) = ix) := ⟨_, rfl⟩
      have hix : ix < ls.length - 1 := by rw [← HIX.out]; exact Nat.mod_lt _ (by omega)
      have hmod : (a : Int) % ((ls.length : Int) - 1) = (ix : Int) := by
        rw [← HIX.out, show ((ls.length : Int) - 1) = ((ls.length - 1 : Nat) : Int) by omega]; rfl
      have hne1 : ¬ ((ls.length : Int) - 1) = 0 := by omega
      obtain ⟨kx, hkx⟩ : ∃ kx : Nat, kx = ix + 1 := ⟨_, rfl⟩
      have hk1 : (1 : Int) + (ix : Int) = (kx : Int) := by omega
      have hkx1 : 1 ≤ kx := by omega
      have hkl : (kx : Int) < (ls.length : Int) := by omega
      have hltm : kx < ms.length := by omega
      clear hix hkx HIX
      have h4 : r = 0 ∨ r = 1 ∨ r = 2 ∨ r = 3 := by omega
      have HNo : Hid (∀ (l2 : List RcV) (i : Nat) (hi : i < l2.length), (l2[i].r.o ≠ 1 ∨ l2[i].r.q ≠ 1 + (i : Int)) → isW ⟨1, 1, 1, 0, 0, 0, 0, l2.map RcV.r⟩ = false) := fun l2 i hi h => isW_gap (i := i) (by simpa using hi) (by simpa using h)
      rcases h4 with rfl | rfl | rfl | rfl
      · obtain ⟨pb, po, hp, hps, hpb0, hpb1, c0, hcs, f0, hfs⟩ := HM2.out.at_ (k := kx) (by omega)
        have c1 := hcs 1 _ rfl
        have c5 := hcs 5 _ rfl
        have f1 := hfs 1
        have f5 := hfs 5
        have HPS := Lib.hid hps
        clear hcs hfs hps
        have hq := (HST.out kx hltm hltm).2.2
        rw [hq] at c1
        have HMN : Hid (Mine w (w2.setCell ⟨pb, po + 1, none⟩ (.int .i64 (1 + (kx : Int) + 1))) ad (ms.set kx (⟨⟨ms[kx].r.o, 1 + (kx : Int) + 1, ms[kx].r.key, ms[kx].r.m, ms[kx].r.c, ms[kx].r.vo, ms[kx].r.val, ms[kx].r.gone, ms[kx].r.ttl⟩, ms[kx].A, ms[kx].cp⟩ : RcV))) := HM2.out.set hltm (j := 1) (by omega) (HPS.out 1) rfl
        have HCN : Hid (Chg [] w (w2.setCell ⟨pb, po + 1, none⟩ (.int .i64 (1 + (kx : Int) + 1)))) := HC2.out.setCell (p := ⟨pb, po + 1, none⟩) (.inr hpb0) _
        have HLN : Hid ((ms.set kx (⟨⟨ms[kx].r.o, 1 + (kx : Int) + 1, ms[kx].r.key, ms[kx].r.m, ms[kx].r.c, ms[kx].r.vo, ms[kx].r.val, ms[kx].r.gone, ms[kx].r.ttl⟩, ms[kx].A, ms[kx].cp⟩ : RcV)).length = ls.length) := by unfold Hid; simpa using hml
        have HVN : Hid (∀ x ∈ ms.set kx (⟨⟨ms[kx].r.o, 1 + (kx : Int) + 1, ms[kx].r.key, ms[kx].r.m, ms[kx].r.c, ms[kx].r.vo, ms[kx].r.val, ms[kx].r.gone, ms[kx].r.ttl⟩, ms[kx].A, ms[kx].cp⟩ : RcV), Rd w 1 x.A x.r.val.length (cB x.r.val)) := fun x hx => by
          rcases List.mem_or_eq_of_mem_set hx with h | rfl
          · exact HV.out x h
          · exact HV.out ms[kx] (List.getElem_mem (by omega))
        have HWN : Hid (isW ⟨1, 1, 1, 0, 0, 0, 0, (ms.set kx (⟨⟨ms[kx].r.o, 1 + (kx : Int) + 1, ms[kx].r.key, ms[kx].r.m, ms[kx].r.c, ms[kx].r.vo, ms[kx].r.val, ms[kx].r.gone, ms[kx].r.ttl⟩, ms[kx].A, ms[kx].cp⟩ : RcV)).map RcV.r⟩ = false) := HNo.out _ kx (by simp; omega) (by rw [List.getElem_set_self]; right; simp only; omega)
        clear HM2 HC2 HPS HST HNo HV hq
        go_wp2_with (fail)
        refine (wEncode_any _ 1 1 1 0 0 0 0 (some ad) _ c2 _ HLN.out HMN.out.rd (fun x hx => (HVN.out x hx).keep0 HCN.out) (by have := HLN.out; omega)).mono ?_
        rintro e w5 ⟨A5, c5, rfl, hnb⟩
        rw [encW_no HWN.out] at hnb ⊢
        have cc5 := HCN.out.trans hnb.2.2.2.1 (by simp)
        clear hnb
        go_wp2_with (go_at_call 14; (with_reducible refine (knownW_any _).mono ?_); rintro e w9 ⟨rfl, hch9⟩)
        go_ret
        exact ⟨rfl, cc5.trans hch9 (by simp)⟩
      · obtain ⟨pb, po, hp, hps, hpb0, hpb1, c0, hcs, f0, hfs⟩ := HM2.out.at_ (k := kx) (by omega)
        have c1 := hcs 1 _ rfl
        have c5 := hcs 5 _ rfl
        have f1 := hfs 1
        have f5 := hfs 5
        have HPS := Lib.hid hps
        clear hcs hfs hps
        have HMN : Hid (Mine w ((w2.setCell ⟨pb, po, none⟩ (.int .i64 2)).setCell ⟨pb, po + 3 + 2, none⟩ (.int .i64 2)) ad (ms.set kx (⟨⟨2, ms[kx].r.q, ms[kx].r.key, ms[kx].r.m, ms[kx].r.c, 2, ms[kx].r.val, ms[kx].r.gone, ms[kx].r.ttl⟩, ms[kx].A, ms[kx].cp⟩ : RcV))) := (HM2.out.set (x := (⟨⟨2, ms[kx].r.q, ms[kx].r.key, ms[kx].r.m, ms[kx].r.c, ms[kx].r.vo, ms[kx].r.val, ms[kx].r.gone, ms[kx].r.ttl⟩, ms[kx].A, ms[kx].cp⟩ : RcV)) hltm (j := 0) (by omega) hp (u := .int .i64 2) rfl).again (p := ⟨pb, po + 3 + 2, none⟩) hltm (j := 5) (by omega) (HPS.out 5) rfl
        have HCN : Hid (Chg [] w ((w2.setCell ⟨pb, po, none⟩ (.int .i64 2)).setCell ⟨pb, po + 3 + 2, none⟩ (.int .i64 2))) := (HC2.out.setCell (p := ⟨pb, po, none⟩) (.inr hpb0) _).setCell (p := ⟨pb, po + 3 + 2, none⟩) (.inr hpb0) _
        have HLN : Hid ((ms.set kx (⟨⟨2, ms[kx].r.q, ms[kx].r.key, ms[kx].r.m, ms[kx].r.c, 2, ms[kx].r.val, ms[kx].r.gone, ms[kx].r.ttl⟩, ms[kx].A, ms[kx].cp⟩ : RcV)).length = ls.length) := by unfold Hid; simpa using hml
        have HVN : Hid (∀ x ∈ ms.set kx (⟨⟨2, ms[kx].r.q, ms[kx].r.key, ms[kx].r.m, ms[kx].r.c, 2, ms[kx].r.val, ms[kx].r.gone, ms[kx].r.ttl⟩, ms[kx].A, ms[kx].cp⟩ : RcV), Rd w 1 x.A x.r.val.length (cB x.r.val)) := fun x hx => by
          rcases List.mem_or_eq_of_mem_set hx with h | rfl
          · exact HV.out x h
          · exact HV.out ms[kx] (List.getElem_mem (by omega))
        have HWN : Hid (isW ⟨1, 1, 1, 0, 0, 0, 0, (ms.set kx (⟨⟨2, ms[kx].r.q, ms[kx].r.key, ms[kx].r.m, ms[kx].r.c, 2, ms[kx].r.val, ms[kx].r.gone, ms[kx].r.ttl⟩, ms[kx].A, ms[kx].cp⟩ : RcV)).map RcV.r⟩ = false) := HNo.out _ kx (by simp; omega) (by rw [List.getElem_set_self]; left; simp)
        clear HM2 HC2 HPS HST HNo HV
        go_wp2_with (fail)
        refine (wEncode_any _ 1 1 1 0 0 0 0 (some ad) _ c2 _ HLN.out HMN.out.rd (fun x hx => (HVN.out x hx).keep0 HCN.out) (by have := HLN.out; omega)).mono ?_
        rintro e w5 ⟨A5, c5, rfl, hnb⟩
        rw [encW_no HWN.out] at hnb ⊢
        have cc5 := HCN.out.trans hnb.2.2.2.1 (by simp)
        clear hnb
        go_wp2_with (go_at_call 14; (with_reducible refine (knownW_any _).mono ?_); rintro e w9 ⟨rfl, hch9⟩)
        go_ret
        exact ⟨rfl, cc5.trans hch9 (by simp)⟩
      · have hl0 : 0 < ms.length := by omega
        have hz0 : (0 : Int) < (ls.length : Int) := by omega
        obtain ⟨pb, po, hp, hps, hpb0, hpb1, c0, hcs, f0, hfs⟩ := HM2.out.at_ (k := 0) (by omega)
        have c1 := hcs 1 _ rfl
        have c5 := hcs 5 _ rfl
        have f1 := hfs 1
        have f5 := hfs 5
        have HPS := Lib.hid hps
        clear hcs hfs hps
        rw [Nat.zero_mul] at hp
        have HMN : Hid (Mine w (w2.setCell ⟨pb, po + 1, none⟩ (.int .i64 7)) ad (ms.set 0 (⟨⟨ms[0].r.o, 7, ms[0].r.key, ms[0].r.m, ms[0].r.c, ms[0].r.vo, ms[0].r.val, ms[0].r.gone, ms[0].r.ttl⟩, ms[0].A, ms[0].cp⟩ : RcV))) := HM2.out.set (k := 0) hl0 (j := 1) (by omega) (HPS.out 1) rfl
        have HCN : Hid (Chg [] w (w2.setCell ⟨pb, po + 1, none⟩ (.int .i64 7))) := HC2.out.setCell (p := ⟨pb, po + 1, none⟩) (.inr hpb0) _
        have HLN : Hid ((ms.set 0 (⟨⟨ms[0].r.o, 7, ms[0].r.key, ms[0].r.m, ms[0].r.c, ms[0].r.vo, ms[0].r.val, ms[0].r.gone, ms[0].r.ttl⟩, ms[0].A, ms[0].cp⟩ : RcV)).length = ls.length) := by unfold Hid; simpa using hml
        have HVN : Hid (∀ x ∈ ms.set 0 (⟨⟨ms[0].r.o, 7, ms[0].r.key, ms[0].r.m, ms[0].r.c, ms[0].r.vo, ms[0].r.val, ms[0].r.gone, ms[0].r.ttl⟩, ms[0].A, ms[0].cp⟩ : RcV), Rd w 1 x.A x.r.val.length (cB x.r.val)) := fun x hx => by
          rcases List.mem_or_eq_of_mem_set hx with h | rfl
          · exact HV.out x h
          · exact HV.out ms[0] (List.getElem_mem (by omega))
        have HWN : Hid (isW ⟨1, 1, 1, 0, 0, 0, 0, (ms.set 0 (⟨⟨ms[0].r.o, 7, ms[0].r.key, ms[0].r.m, ms[0].r.c, ms[0].r.vo, ms[0].r.val, ms[0].r.gone, ms[0].r.ttl⟩, ms[0].A, ms[0].cp⟩ : RcV)).map RcV.r⟩ = false) := HNo.out _ 0 (by simp; omega) (by rw [List.getElem_set_self]; right; simp)
        clear HM2 HC2 HPS HST HNo HV
        go_wp2_with (fail)
        refine (wEncode_any _ 1 1 1 0 0 0 0 (some ad) _ c2 _ HLN.out HMN.out.rd (fun x hx => (HVN.out x hx).keep0 HCN.out) (by have := HLN.out; omega)).mono ?_
        rintro e w5 ⟨A5, c5, rfl, hnb⟩
        rw [encW_no HWN.out] at hnb ⊢
        have cc5 := HCN.out.trans hnb.2.2.2.1 (by simp)
        clear hnb
        go_wp2_with (go_at_call 14; (with_reducible refine (knownW_any _).mono ?_); rintro e w9 ⟨rfl, hch9⟩)
        go_ret
        exact ⟨rfl, cc5.trans hch9 (by simp)⟩
      · obtain ⟨pb, po, hp, hps, hpb0, hpb1, c0, hcs, f0, hfs⟩ := HM2.out.at_ (k := kx) (by omega)
        have c1 := hcs 1 _ rfl
        have c5 := hcs 5 _ rfl
        have f1 := hfs 1
        have f5 := hfs 5
        have HPS := Lib.hid hps
        clear hcs hfs hps
        have HMN : Hid (Mine w (w2.setCell ⟨pb, po + 1, none⟩ (.int .i64 1)) ad (ms.set kx (⟨⟨ms[kx].r.o, 1, ms[kx].r.key, ms[kx].r.m, ms[kx].r.c, ms[kx].r.vo, ms[kx].r.val, ms[kx].r.gone, ms[kx].r.ttl⟩, ms[kx].A, ms[kx].cp⟩ : RcV))) := HM2.out.set hltm (j := 1) (by omega) (HPS.out 1) rfl
        have HCN : Hid (Chg [] w (w2.setCell ⟨pb, po + 1, none⟩ (.int .i64 1))) := HC2.out.setCell (p := ⟨pb, po + 1, none⟩) (.inr hpb0) _
        have HLN : Hid ((ms.set kx (⟨⟨ms[kx].r.o, 1, ms[kx].r.key, ms[kx].r.m, ms[kx].r.c, ms[kx].r.vo, ms[kx].r.val, ms[kx].r.gone, ms[kx].r.ttl⟩, ms[kx].A, ms[kx].cp⟩ : RcV)).length = ls.length) := by unfold Hid; simpa using hml
        have HVN : Hid (∀ x ∈ ms.set kx (⟨⟨ms[kx].r.o, 1, ms[kx].r.key, ms[kx].r.m, ms[kx].r.c, ms[kx].r.vo, ms[kx].r.val, ms[kx].r.gone, ms[kx].r.ttl⟩, ms[kx].A, ms[kx].cp⟩ : RcV), Rd w 1 x.A x.r.val.length (cB x.r.val)) := fun x hx => by
          rcases List.mem_or_eq_of_mem_set hx with h | rfl
          · exact HV.out x h
          · exact HV.out ms[kx] (List.getElem_mem (by omega))
        have HWN : Hid (isW ⟨1, 1, 1, 0, 0, 0, 0, (ms.set kx (⟨⟨ms[kx].r.o, 1, ms[kx].r.key, ms[kx].r.m, ms[kx].r.c, ms[kx].r.vo, ms[kx].r.val, ms[kx].r.gone, ms[kx].r.ttl⟩, ms[kx].A, ms[kx].cp⟩ : RcV)).map RcV.r⟩ = false) := HNo.out _ kx (by simp; omega) (by rw [List.getElem_set_self]; right; simp only; omega)
        clear HM2 HC2 HPS HST HNo HV
        go_wp2_with (fail)
        refine (wEncode_any _ 1 1 1 0 0 0 0 (some ad) _ c2 _ HLN.out HMN.out.rd (fun x hx => (HVN.out x hx).keep0 HCN.out) (by have := HLN.out; omega)).mono ?_
        rintro e w5 ⟨A5, c5, rfl, hnb⟩
        rw [encW_no HWN.out] at hnb ⊢
        have cc5 := HCN.out.trans hnb.2.2.2.1 (by simp)
        clear hnb
        go_wp2_with (go_at_call 14; (with_reducible refine (knownW_any _).mono ?_); rintro e w9 ⟨rfl, hch9⟩)
        go_ret
        exact ⟨rfl, cc5.trans hch9 (by simp)⟩
end Go.Proofs.Ytkdbjhmffnjimaa
