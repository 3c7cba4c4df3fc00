
/-
  WireSees: the walk of the law.
-/
import Derived.Test.YtkdbjhmffnjimaaWirA2
import Derived.Test.YtkdbjhmffnjimaaWirA3
import Derived.Test.YtkdbjhmffnjimaaMask
import Derived.OpenShut
namespace Go.Proofs.Ytkdbjhmffnjimaa
open Go.RowKit
set_option linter.unusedVariables false

theorem Rd.setAt {w : World} {g n i : Nat} {xs : List Value} {v : Value} (h : Rd w 1 (some ⟨g, 0, none⟩) n xs) (hi : i < n) (hx : w.cell? ⟨g, i, none⟩ = some v) (u : Value) : Rd (w.setCell ⟨g, i, none⟩ u) 1 (some ⟨g, 0, none⟩) n (xs.set i u) := by
  refine ⟨by rw [List.length_set, h.len], fun hn => ?_⟩
  obtain ⟨ad, ha, hb, hc⟩ := h.at_ hn
  obtain rfl : ad = ⟨g, 0, none⟩ := by injection ha with ha; exact ha.symm
  refine ⟨_, rfl, by simpa [World.setCell] using hb, fun j z hz => ?_⟩
  have e : ∀ j, (⟨g, 0, none⟩ : Addr).add j = ⟨g, j, none⟩ := fun j => by unfold Addr.add; split <;> simp_all
  rw [e]
  by_cases hj : j = i
  · subst hj
    have hl : j < xs.length := by have := h.len; omega
    rw [List.getElem?_set_self hl] at hz
    rw [World.cell?_setCell_same _ _ _ hx, hz]
  · rw [List.getElem?_set_ne (Ne.symm hj)] at hz
    rw [World.cell?_setCell_other _ _ _ _ (fun he => hj (by injection he with _ h2; exact h2.symm)), ← e]
    exact hc j z hz

set_option maxRecDepth 100000 in
set_option maxHeartbeats 6400000 in
theorem wireSees_law (w : World) (x : WdV) (hx : x.In w) (v : Int) (hv : (Lit.int .i64 v).wf = true) (b : Int) (hb : (Lit.int .u8 b).wf = true) :
    Calls Try.prog 5 #[.agg x.cells.toArray, .int .i64 v, .int .u8 b] w fun e w' => e = .returned (.bool true) ∧ Chg [] w w' := by
  obtain ⟨kd, o, q, sm, sc, fm, fc, A, ls, c⟩ := x
  obtain ⟨rd, cap, capm, hlen, hrs, _⟩ := hx
  simp only at rd cap capm hlen hrs
  have RD : Hid (Rd w 9 A ls.length (cRc ls)) := rd
  have RS : Hid (∀ x ∈ ls, Rd w 1 x.A x.r.val.length (cB x.r.val)) := fun x hx => (hrs x hx).rd
  have HB : Hid (∀ x ∈ ls, x.r.key.length ≤ 140737488351232 ∧ x.r.val.length ≤ 140737488351232) := fun x hx => ⟨(hrs x hx).kl, (hrs x hx).vl⟩
  have hls : ls.length ≤ 140737488351232 := by omega
  clear rd hrs cap capm hlen
  have hby := bounds_u8 hb
  obtain ⟨Y, rfl⟩ := Int.eq_ofNat_of_zero_le hby.1
  have hY : Y ≤ 255 := by omega
  clear hby hb hv
  show Calls _ _ #[.agg #[.int .i64 kd, .int .i64 o, .int .i64 q, .int .i64 sm, .int .i64 sc, .int .i64 fm, .int .i64 fc, .slice A ls.length c], .int .i64 v, .int .u8 (Y : Int)] w _
  have h0 := Chg.alloc (.refl [] w) (.cells #[.int .i64 kd, .int .i64 o, .int .i64 q, .int .i64 sm, .int .i64 sc, .int .i64 fm, .int .i64 fc, .slice A ls.length c] 26)
  have a0 := At.new w 26 #[.int .i64 kd, .int .i64 o, .int .i64 q, .int .i64 sm, .int .i64 sc, .int .i64 fm, .int .i64 fc, .slice A ls.length c]
  have hone : ∃ d : Bool, Hid (((Y : Int) == 0) = d) := ⟨_, rfl⟩
  obtain ⟨dY, hdY⟩ := hone
  have hdYo := hdY.out
  go_enter Try.func5, Try.ntmps5
  go_wp2_with (fail)
  refine (heavyW_any _ kd o q sm sc fm fc A _ c ls rfl (RD.out.alloc _) hls HB.out).mono ?_
  rintro e w1 ⟨hv1, rfl, hlight, hch1⟩
  have a1 := a0.keep hch1 (by simp)
  have c1 := h0.trans hch1 (by simp)
  clear a0 h0 hch1
  cases hv1
  rotate_left
  · go_wp2_with (fail)
    go_ret
    exact ⟨rfl, c1⟩
  have hl4 := hlight rfl
  have hls2 : ls.length ≤ 400 := by omega
  clear hlight hl4
  have y0 := a1.cell 0
  have y1 := a1.cell 1
  have y2 := a1.cell 2
  have y3 := a1.cell 3
  have y4 := a1.cell 4
  have y5 := a1.cell 5
  have y6 := a1.cell 6
  have y7 := a1.cell 7
  simp only [List.getElem?_toArray, List.getElem?_cons_zero, List.getElem?_cons_succ] at y0 y1 y2 y3 y4 y5 y6 y7
  cases dY
  rotate_left
  · go_wp2_with (fail)
    go_ret
    exact ⟨rfl, c1⟩
  have hY0 : Y ≠ 0 := by rw [beq_eq_false_iff_ne] at hdYo; omega
  go_wp2_with (fail)
  refine (wEncode_any w1 kd o q sm sc fm fc A _ c ls rfl (RD.out.keep0 c1) (fun x hx => (RS.out x hx).keep0 c1) (by omega)).mono ?_
  rintro e w2 ⟨A2, c2, rfl, hnb⟩
  obtain ⟨s, hs⟩ : ∃ s, Hid (isW ⟨kd, o, q, sm, sc, fm, fc, ls.map RcV.r⟩ = s) := ⟨_, rfl⟩
  have a2 := a1.keep hnb.2.2.2.1 (by simp)
  have cc2 := c1.trans hnb.2.2.2.1 (by simp)
  clear y0 y1 y2 y3 y4 y5 y6 y7
  have y0 := a2.cell 0
  have y1 := a2.cell 1
  have y2 := a2.cell 2
  have y3 := a2.cell 3
  have y4 := a2.cell 4
  have y5 := a2.cell 5
  have y6 := a2.cell 6
  have y7 := a2.cell 7
  simp only [List.getElem?_toArray, List.getElem?_cons_zero, List.getElem?_cons_succ] at y0 y1 y2 y3 y4 y5 y6 y7
  cases s
  · rw [encW_no hs.out]
    go_wp2_with (fail)
    refine (refIsW_any w2 kd o q sm sc fm fc A _ c ls rfl (RD.out.keep0 cc2) (by omega)).mono ?_
    rintro e w3 ⟨rfl, hch3⟩
    rw [hs.out]
    go_wp2_with (go_at_call 14; (with_reducible refine (knownW_any _).mono ?_); rintro e w9 ⟨rfl, hch9⟩)
    go_ret
    exact ⟨rfl, (cc2.trans hch3 (by simp)).trans hch9 (by simp)⟩
  rw [encW_yes hs.out] at hnb ⊢
  simp only at hnb ⊢
  have hbl := bodyW_len hs.out
  have hel := encF_len (bodyW ⟨kd, o, q, sm, sc, fm, fc, ls.map RcV.r⟩)
  have HSee := Lib.hid (fun (i : Nat) (u z : UInt8) (hz : (encF (bodyW ⟨kd, o, q, sm, sc, fm, fc, ls.map RcV.r⟩))[i]? = some z) (hu : u ≠ z) => decW_see hs.out hz hu)
  obtain ⟨E, hE⟩ : ∃ E, Hid (encF (bodyW ⟨kd, o, q, sm, sc, fm, fc, ls.map RcV.r⟩) = E) := ⟨_, rfl⟩
  rw [hE.out] at hnb hel HSee ⊢
  have hEl : E.length ≤ 80000 := by omega
  have hEp : 0 < E.length := by omega
  have hs2 := cc2.size
  obtain ⟨g, rfl, hg0, hg1, hcell, hfree⟩ := hnb.cells hEp
  have r2 := hnb.1
  have hcap2 := hnb.2.1
  clear hbl hel hE hnb y0 y1 y2 y3 y4 y5 y6 y7
  have hlE : ((E.length : Int) == 0) = false := by rw [beq_eq_false_iff_ne]; omega
  have hlE' : ¬ (E.length : Int) = 0 := by omega
  obtain ⟨a, eand, ha⟩ := and30m v
  have hil : a % E.length < E.length := Nat.mod_lt _ (by omega)
  obtain ⟨ix, HIX⟩ : ∃ ix, Hid (a % E.length = ix) := ⟨_, rfl⟩
  rw [HIX.out] at hil
  have hmod : ((a : Int)) % (E.length : Int) = (ix : Int) := by rw [← HIX.out]; omega
  have i0' : (0 : Int) ≤ (ix : Int) := by omega
  have i1' : (ix : Int) < (E.length : Int) := by omega
  have HX := Lib.hid (u8_xor_nat E[ix].toNat Y E[ix].toNat_lt (by omega))
  have HG := Lib.hid (List.getElem?_eq_getElem hil)
  have hbl := E[ix].toNat_lt
  have HNe := Lib.hid (xor_nem E[ix] Y hY0 (by omega))
  have HTn : Hid ((UInt8.ofNat (E[ix].toNat ^^^ Y)).toNat = E[ix].toNat ^^^ Y) := toNat_ofNatm (Nat.xor_lt_two_pow (n := 8) hbl (by omega))
  have HCB := Lib.hid (cB_get hil)
  generalize E[ix] = b at *
  have hx8 := HX.out
  have HSe := Lib.hid (HSee.out ix _ _ HG.out HNe.out)
  have hce := hcell ix _ HCB.out
  have hfr := hfree ix hil
  have hge : w.heap.size ≤ g := by have := c1.size; omega
  have hcs : Hid ((cB E).set ix (.int .u8 ((b.toNat ^^^ Y : Nat) : Int)) = cB (E.set ix (UInt8.ofNat (b.toNat ^^^ Y)))) := by unfold Hid; rw [cB_setm, HTn.out]
  have lE2 : Hid ((E.set ix (UInt8.ofNat (b.toNat ^^^ Y))).length = E.length) := by unfold Hid; simp
  have HW : ∀ u, Hid (u = (.int .u8 ((b.toNat ^^^ Y : Nat) : Int)) → Rd (w2.setCell ⟨g, ix, none⟩ u) 1 (some ⟨g, 0, none⟩) (E.set ix (UInt8.ofNat (b.toNat ^^^ Y))).length (cB (E.set ix (UInt8.ofNat (b.toNat ^^^ Y)))) ∧ Chg [] w (w2.setCell ⟨g, ix, none⟩ u)) := by
    rintro u rfl
    refine ⟨?_, cc2.setCell (.inr hge) _⟩
    rw [lE2.out, ← hcs.out]
    exact r2.setAt hil hce _
  have HW1 := HW _ rfl
  clear hcell hfree HNe HG HSee HTn hY0 hdY hdYo HW
  have HDC := Lib.hid (fun (wy : World) (h : Rd wy 1 (some ⟨g, 0, none⟩) (E.set ix (UInt8.ofNat (b.toNat ^^^ Y))).length (cB (E.set ix (UInt8.ofNat (b.toNat ^^^ Y))))) => wDecode_any wy (some ⟨g, 0, none⟩) E.length c2 _ lE2.out h (by rw [lE2.out]; exact hcap2) (by rw [lE2.out]; omega))
  have hbad := Lib.hid HSe.out
  obtain ⟨t, ht⟩ : ∃ t, Hid (decW (E.set ix (UInt8.ofNat (b.toNat ^^^ Y))) = t) := ⟨_, rfl⟩
  rw [ht.out] at HDC hbad
  obtain ⟨tx, te⟩ := t
  obtain ⟨e1, e2⟩ := hbad.out
  simp only at e1 e2
  subst e2
  have hte : ((te : Int) != 0) = true := by rw [bne_iff_ne]; omega
  obtain ⟨hr1, hch3⟩ := HW1
  have HR1 := Lib.hid hr1
  have HC3 := Lib.hid hch3
  clear ht hbad HSe hr1 hch3 e1
  go_wp2_with (fail)
  refine (HDC.out _ HR1.out).mono ?_
  rintro e w5 ⟨⟨xk, xo, xq, xsm, xsc, xfm, xfc, A5, l5, c5⟩, rfl, hx5, hown5, hO5, hch5⟩
  simp only [WdV.d, Wd.z, Wd.mk.injEq, List.map_eq_nil_iff] at hx5
  obtain ⟨rfl, rfl, rfl, rfl, rfl, rfl, rfl, rfl⟩ := hx5
  simp only [WdV.cells, List.length_nil] at hown5 ⊢
  have cc5 := HC3.out.trans hch5 (by simp)
  clear HDC hown5 hO5 hch5
  go_wp2_with (first
    | (go_at_call 13
       (with_reducible refine (words_yes _ 0 0 0 0 0 0 0 A5 none 0 0 c5 0 [] [] rfl rfl rfl (Rd.nil _ _ _) (Rd.nil _ _ _) (by simp) (by simp) (by simp)).mono ?_)
       rintro e w6 ⟨rfl, hch6⟩)
    | (go_at_call 14; (with_reducible refine (knownW_any _).mono ?_); rintro e w9 ⟨rfl, hch9⟩))
  go_ret
  exact ⟨rfl, ((cc5.alloc _).trans hch6 (by simp)).trans hch9 (by simp)⟩
end Go.Proofs.Ytkdbjhmffnjimaa
