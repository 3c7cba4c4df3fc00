
/-
  ChainTwice: the walk of the law.
-/
import Derived.Test.YtmliclfepnebfaaChZ
import Derived.Test.YtmliclfepnebfaaMask
namespace Go.Proofs.Ytmliclfepnebfaa
open Go.RowKit
set_option linter.unusedVariables false
set_option linter.unusedSimpArgs false
set_option maxRecDepth 100000 in
set_option maxHeartbeats 12800000 in
theorem chainTwice_law (w : World) (x : Sl VrV) (hx : Rd w 6 x.A x.ls.length (x.ls.flatMap VrV.cells) ∧ x.ls.length ≤ x.c ∧ x.c ≤ maxLen ∧ x.ls.length * 64 ≤ 140737488351232 ∧ ∀ a ∈ x.ls, VrV.InN w a) (at_ : Int) (hat : (Lit.int .i64 at_).wf = true) (y : SlB) (hy : RdB w y ∧ y.bs.length ≤ y.c ∧ y.c ≤ maxLen ∧ y.bs.length ≤ 140737488351232 ∧ (y.A = none → y.c = 0)) :
    Calls Try.prog 8 #[.slice x.A x.ls.length x.c, .int .i64 at_, y.val] w fun e w' => e = .returned (.bool true) ∧ Chg [] w w' := by
  have hX := Vers.of hx
  obtain ⟨A, c, ls⟩ := x
  obtain ⟨B, cb, bs⟩ := y
  obtain ⟨hyr, _, _, hbl, hbn⟩ := hy
  clear hx hat
  simp only at hbl hbn
  have HY : Hid (Rd w 1 B bs.length (cB bs)) := hyr
  have HBN := Lib.hid hbn
  have HX := Lib.hid hX
  have hll : ls.length ≤ 140737488351232 := hX.len
  have HR : Hid (Rd w 6 A ls.length (cVr ls)) := hX.rd
  have HVL : Hid (∀ x ∈ ls, x.val.length ≤ 140737488351232) := fun x hx => (hX.dat x hx).vl
  clear hX hyr hbn
  show Calls Try.prog 8 #[.slice A ls.length c, .int .i64 at_, .slice B bs.length cb] w _
  obtain ⟨mi, eand, hmi⟩ := and16m at_
  go_enter Try.func8, Try.ntmps8
  go_wp2_with (fail)
  refine (heavyV_any w A c ls HR.out hll HVL.out).mono ?_
  rintro e w1 ⟨hv, rfl, hhv, hc1⟩
  cases hv
  rotate_left
  · clear hhv
    go_wp2_with (fail)
    go_ret
    exact ⟨rfl, hc1⟩
  have hsum := Lib.hid (hhv rfl)
  clear hhv
  have hl1 : ls.length ≤ 1000 := by have := hsum.out; omega
  have HLA := Lib.hid ((HX.out.laid hsum.out).keep hc1)
  clear HX
  by_cases h0 : ls.length = 0
  · have h0i : ((ls.length : Int) == 0) = true := by simp [h0]
    clear h0
    go_wp2_with (fail)
    go_ret
    exact ⟨rfl, hc1⟩
  have h0i : ((ls.length : Int) == 0) = false := by rw [beq_eq_false_iff_ne]; omega
  by_cases h1 : 1000 < bs.length
  · have h1i : decide ((1000 : Int) < (bs.length : Int)) = true := decide_eq_true (by omega)
    go_wp2_with (fail)
    go_ret
    exact ⟨rfl, hc1⟩
  have h1i : decide ((1000 : Int) < (bs.length : Int)) = false := decide_eq_false (by omega)
  go_wp2_with (fail)
  refine (ofC_any w1 A c ls HLA.out (by omega)).mono ?_
  rintro e w2 (⟨hz, gn, rfl, hA, hG, hl⟩ | ⟨hz, rfl, hc2⟩)
  rotate_left
  · generalize (ofR [] (List.map VrV.v ls)).1 = er at *
    have hb : (er != 0) = true := by rw [bne_iff_ne]; exact hz
    go_wp2_with (fail)
    refine (known_any _).mono ?_
    rintro e wk ⟨rfl, hck⟩
    go_wp2_with (fail)
    go_ret
    exact ⟨rfl, ((by repeat' (first | (with_reducible assumption) | (with_reducible exact Chg.refl _ _) | (with_reducible refine Chg.alloc ?_ _) | (with_reducible refine Chg.drewN ?_ _) | (with_reducible refine Chg.drew ?_) | (with_reducible refine Chg.strW ?_ _ _) | (with_reducible refine Chg.t0 ?_ (by with_reducible assumption)))) : Chg [] w _).trans hck (by simp)⟩
  have hik : mi % ls.length < ls.length := Nat.mod_lt _ (by omega)
  have hmod : (mi : Int).tmod (ls.length : Int) = ((mi % ls.length : Nat) : Int) := rfl
  have HT : Hid (∀ d : List UInt8, d.length ≤ 1024 → putE (ofR [] (List.map VrV.v ls)).2 ⟨(ls[mi % ls.length]).m, (ls[mi % ls.length]).c, (ls[mi % ls.length]).vo, d, false, (ls[mi % ls.length]).ttl⟩ = 8) := fun d hd => has_twice hz (v := (ls[mi % ls.length]).v) (List.mem_map_of_mem (List.getElem_mem hik)) hd
  have HN := Lib.hid hA
  have HG := Lib.hid hG
  rw [List.length_map] at hl
  generalize (ofR [] (List.map VrV.v ls)).2 = acc at *
  have hc2 := hA.chg
  have HRD := Lib.hid (HLA.out.keep hc2).rd
  clear hA hG hz
  obtain ⟨ix, HIX⟩ : ∃ ix, Hid (mi % ls.length = ix) := ⟨_, Lib.hid rfl⟩
  rw [HIX.out] at hik hmod
  simp only [HIX.out] at HT
  have hix0 : (0 : Int) ≤ (ix : Int) := by omega
  have hix1 : (ix : Int) < (ls.length : Int) := by omega
  have HC2 := Lib.hid (hc1.trans hc2 (by simp))
  clear hc2
  go_wp2_with (fail)
  refine (allC_all HN.out (by omega) HG.out.valid).mono ?_
  rintro e w3 ⟨A3, c3, ms3, rfl, hm3, h3⟩
  have HN3 := Lib.hid (HN.out.vers h3)
  have HM3 := Lib.hid hm3
  have HC3 := Lib.hid (HC2.out.trans h3.chg (by simp))
  have HR3 := HRD.out.keep0 h3.chg
  clear HN h3 hm3 HRD
  obtain ⟨ad, hAd, had, hc0, hc⟩ := HR3.getV hik
  have d1 := hc 1 _ (by omega) rfl
  have d2 := hc 2 _ (by omega) rfl
  have d3 := hc 3 _ (by omega) rfl
  have d4 := hc 4 _ (by omega) rfl
  have d5 := hc 5 _ (by omega) rfl
  clear hc HR3
  subst hAd
  generalize ls[ix] = v at *
  obtain ⟨m, q, o, A', d, p, g, t⟩ := v
  simp only at hc0 d1 d2 d3 d4 d5 HT
  have HN4 := Lib.hid (HN3.out.quiet ((Chg.refl [] w3).alloc (.cells #[.int .i64 m, .int .i64 q, .int .i64 o, .slice B bs.length cb, .bool false, .int .i64 t] 28)))
  have HY4 := Lib.hid ((HY.out.keep0 HC3.out).alloc (.cells #[.int .i64 m, .int .i64 q, .int .i64 o, .slice B bs.length cb, .bool false, .int .i64 t] 28))
  have HPU := Lib.hid (putC_all HN4.out (by omega) HG.out.rise m q o B cb false t bs HY4.out (by omega) HBN.out)
  rw [HT.out bs (by omega), putL_twice (HT.out bs (by omega))] at HPU
  clear HN3 HN4 HY4
  go_wp2_with (fail)
  refine HPU.out.mono ?_
  rintro e w5 ⟨rfl, h5⟩
  have HN5 := Lib.hid h5
  clear hc0 d1 d2 d3 d4 d5 HPU h5
  have HC5 := Lib.hid (hc1.trans HN5.out.chg (by simp))
  go_wp2_with (fail)
  refine (allC_all HN5.out (by omega) HG.out.valid).mono ?_
  rintro e w6 ⟨A6, c6, ms6, rfl, hm6, h6⟩
  have HN6 := Lib.hid (HN5.out.vers h6)
  have HV6 := Lib.hid (HN6.out.at_ 0 rfl)
  have HV3 := Lib.hid (HN6.out.at_ 1 rfl)
  have HM6 := Lib.hid hm6
  have hl6 : ms6.length ≤ 1000 := by have := congrArg List.length hm6; rw [List.length_map] at this; omega
  have HC6 := Lib.hid (hc1.trans HN6.out.chg (by simp))
  clear HN5 h6 hm6
  go_wp2_with (fail)
  refine (versions_eq w6 A6 c6 ms6 A3 c3 ms3 (HM6.out.trans HM3.out.symm) HV6.out.rd HV3.out.rd HV6.out.rdat HV3.out.rdat (by omega)).mono ?_
  rintro e w7 ⟨rfl, hc7⟩
  have HC7 := Lib.hid (HC6.out.trans hc7 (by simp))
  clear hc7
  go_wp2_with (fail)
  refine (known_any _).mono ?_
  rintro e wk ⟨rfl, hck⟩
  go_wp2_with (fail)
  go_ret
  exact ⟨rfl, HC7.out.trans hck (by simp)⟩
end Go.Proofs.Ytmliclfepnebfaa
