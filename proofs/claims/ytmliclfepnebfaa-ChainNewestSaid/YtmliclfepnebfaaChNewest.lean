
/-
  ChainNewest: the walk of the law.
-/
import Derived.Test.YtmliclfepnebfaaChZ
namespace Go.Proofs.Ytmliclfepnebfaa
open Go.RowKit
set_option linter.unusedVariables false
set_option linter.unusedSimpArgs false
set_option maxRecDepth 100000 in
set_option maxHeartbeats 12800000 in
theorem chainNewest_law (w : World) (x : Sl VrV) (hx : Rd w 6 x.A x.ls.length (x.ls.flatMap VrV.cells) ∧ x.ls.length ≤ x.c ∧ x.c ≤ maxLen ∧ x.ls.length * 64 ≤ 140737488351232 ∧ ∀ a ∈ x.ls, VrV.InN w a) :
    Calls Try.prog 9 #[.slice x.A x.ls.length x.c] w fun e w' => e = .returned (.bool true) ∧ Chg [] w w' := by
  have hX := Vers.of hx
  obtain ⟨A, c, ls⟩ := x
  clear hx
  have HX := Lib.hid hX
  have hll : ls.length ≤ 140737488351232 := hX.len
  have HR : Hid (Rd w 6 A ls.length (cVr ls)) := hX.rd
  have HVL : Hid (∀ x ∈ ls, x.val.length ≤ 140737488351232) := fun x hx => (hX.dat x hx).vl
  clear hX
  show Calls Try.prog 9 #[.slice A ls.length c] w _
  go_enter Try.func9, Try.ntmps9
  go_wp2_with (fail)
  refine (heavyV_any w A c ls HR.out hll HVL.out).mono ?_
  rintro e w1 ⟨hv, rfl, hhv, hc1⟩
  cases hv
  rotate_left
  · clear hhv
    go_wp2_with (fail)
    go_ret
    exact ⟨rfl, hc1⟩
  have hsum := Lib.hid (hhv rfl)
  clear hhv
  have hl1 : ls.length ≤ 1000 := by have := hsum.out; omega
  have HLA := Lib.hid ((HX.out.laid hsum.out).keep hc1)
  clear HX
  by_cases h0 : ls.length = 0
  · have h0i : ((ls.length : Int) == 0) = true := by simp [h0]
    clear h0
    go_wp2_with (fail)
    go_ret
    exact ⟨rfl, hc1⟩
  have h0i : ((ls.length : Int) == 0) = false := by rw [beq_eq_false_iff_ne]; omega
  go_wp2_with (fail)
  refine (ofC_any w1 A c ls HLA.out (by omega)).mono ?_
  rintro e w2 (⟨hz, gn, rfl, hA, hG, hl⟩ | ⟨hz, rfl, hc2⟩)
  rotate_left
  · generalize (ofR [] (List.map VrV.v ls)).1 = er at *
    have hb : (er != 0) = true := by rw [bne_iff_ne]; exact hz
    go_wp2_with (fail)
    refine (known_any _).mono ?_
    rintro e wk ⟨rfl, hck⟩
    go_wp2_with (fail)
    go_ret
    exact ⟨rfl, ((by repeat' (first | (with_reducible assumption) | (with_reducible exact Chg.refl _ _) | (with_reducible refine Chg.alloc ?_ _) | (with_reducible refine Chg.drewN ?_ _) | (with_reducible refine Chg.drew ?_) | (with_reducible refine Chg.strW ?_ _ _) | (with_reducible refine Chg.t0 ?_ (by with_reducible assumption)))) : Chg [] w _).trans hck (by simp)⟩
  have hln := ofR_len hz
  rw [List.length_map] at hln hl
  have HN := Lib.hid hA
  have HG := Lib.hid hG
  generalize (ofR [] (List.map VrV.v ls)).2 = acc at *
  have hc2 := hA.chg
  have HC2 := Lib.hid (hc1.trans hc2 (by simp))
  clear hA hG hz hc2
  have hne : acc ≠ [] := fun e => by rw [e] at hln; exact h0 hln.symm
  obtain ⟨hb1, hlt, hat⟩ := at_newest HG.out.valid hne
  have HB1 := Lib.hid hb1
  have HAT := Lib.hid hat
  have HB2 := Lib.hid (at_none HG.out.valid)
  have HNE := Lib.hid hne
  have HLN := Lib.hid hln
  clear hb1 hat hne hln
  go_wp2_with (fail)
  refine (allC_all HN.out (by omega) HG.out.valid).mono ?_
  rintro e w3 ⟨A3, c3, ms3, rfl, hm3, h3⟩
  have HN3 := Lib.hid (HN.out.vers h3)
  have HM3 := Lib.hid hm3
  have hl3 : ms3.length = acc.length := by rw [← hm3, List.length_map]
  obtain ⟨k, hk⟩ : ∃ k, ms3.length = k + 1 := ⟨ms3.length - 1, by omega⟩
  have HK := Lib.hid hk
  have HL3 := Lib.hid hl3
  rw [hk]
  clear HN h3 hm3 hk hl3
  go_wp2_with (fail)
  refine (atC_all HN3.out (by omega) HG.out.valid 281474976710655 65535).mono ?_
  rw [HB1.out]
  have HSV : Hid (∀ x : VrV, ms3[k]? = some x → x.v = atX acc ⟨281474976710655, 65535⟩) := fun x hx => by
    rw [HAT.out]
    have h1 : (ms3.map VrV.v)[k]? = some x.v := by rw [List.getElem?_map, hx]; rfl
    rw [HM3.out] at h1
    have h2 : acc.length - 1 = k := by rw [← HL3.out, HK.out]; rfl
    simp only [h2]
    obtain ⟨h3, h4⟩ := List.getElem?_eq_some_iff.1 h1
    exact h4.symm
  generalize atX acc ⟨281474976710655, 65535⟩ = v at *
  obtain ⟨m, q, o, d, g, t⟩ := v
  rintro e w4 ⟨A4, c4, rfl, ho4, hc4⟩
  simp only [VV.cells] at ho4 ⊢
  have HN4 := Lib.hid ((HN3.out.row hc4 ho4).quiet ((Chg.refl [] w4).alloc (.cells #[.int .i64 m, .int .i64 q, .int .i64 o, .slice A4 d.length c4, .bool g, .int .i64 t] 28)))
  have HB4 := Lib.hid (At.new w4 28 #[.int .i64 m, .int .i64 q, .int .i64 o, .slice A4 d.length c4, .bool g, .int .i64 t])
  clear HN3 ho4 hc4
  go_wp2_with (fail)
  generalize w4.alloc (.cells #[.int .i64 m, .int .i64 q, .int .i64 o, .slice A4 d.length c4, .bool g, .int .i64 t] 28) = wy at *
  generalize w4.heap.size = g4 at *
  refine (atC_all HN4.out (by omega) HG.out.valid (-1) 0).mono ?_
  rw [HB2.out]
  generalize atX acc ⟨-1, 0⟩ = v2 at *
  obtain ⟨zm, zq, zo, zd, zg, zt⟩ := v2
  rintro e w6 ⟨A6, c6, rfl, ho6, hc6⟩
  simp only [VV.cells] at ho6 ⊢
  have HN6 := Lib.hid (HN4.out.quiet (hc6.alloc (.cells #[.int .i64 zm, .int .i64 zq, .int .i64 zo, .slice A6 zd.length c6, .bool zg, .int .i64 zt] 28)))
  have HB6 := Lib.hid (HB4.out.keep (hc6.alloc (.cells #[.int .i64 zm, .int .i64 zq, .int .i64 zo, .slice A6 zd.length c6, .bool zg, .int .i64 zt] 28)) (by simp))
  clear HN4 HB4 ho6 hc6
  go_upto_region 9 with (fail)
  generalize w6.alloc (.cells #[.int .i64 zm, .int .i64 zq, .int .i64 zo, .slice A6 zd.length c6, .bool zg, .int .i64 zt] 28) = wz at *
  have HD4 := Lib.hid (Rd.of_own (HN6.out.at_ 0 rfl))
  have HV := Lib.hid (HN6.out.at_ 1 rfl)
  have hk3 : k < ms3.length := by rw [HK.out]; omega
  have HD7 := Lib.hid (HV.out.rdat _ (List.getElem_mem hk3))
  obtain ⟨ad, hAd, had, hc0, hc⟩ := HV.out.rd.getV hk3
  have e1 := hc 1 _ (by omega) rfl
  have e2 := hc 2 _ (by omega) rfl
  have e3 := hc 3 _ (by omega) rfl
  have e4 := hc 4 _ (by omega) rfl
  have e5 := hc 5 _ (by omega) rfl
  have hsv := HSV.out _ (List.getElem?_eq_getElem hk3)
  clear hc HSV
  subst hAd
  generalize ms3[k] = x7 at *
  obtain ⟨m2, q2, o2, A7, d2, p2, g2, t2⟩ := x7
  simp only [VrV.v] at hc0 e1 e2 e3 e4 e5 HD7 hsv
  have HSM : Hid (sameVB m q o d g t m2 q2 o2 d2 g2 t2 = true) := by
    injection hsv with i1 i2 i3 i4 i5 i6
    subst i1 i2 i3 i4 i5 i6
    exact sameVB_refl ⟨m2, q2, o2, d2, g2, t2⟩
  clear hsv
  have HCZ := Lib.hid (hc1.trans HN6.out.chg (by simp))
  have KK : Hid (∀ w', Chg [] wz w' → w'.cell? ⟨g4, 0, none⟩ = some (.int .i64 m) ∧ w'.cell? ⟨g4, 1, none⟩ = some (.int .i64 q) ∧ w'.cell? ⟨g4, 2, none⟩ = some (.int .i64 o) ∧ w'.cell? ⟨g4, 3, none⟩ = some (.slice A4 d.length c4) ∧ w'.cell? ⟨g4, 4, none⟩ = some (.bool g) ∧ w'.cell? ⟨g4, 5, none⟩ = some (.int .i64 t) ∧ w'.cell? (ad.add (k * 6)) = some (.int .i64 m2) ∧ w'.cell? ⟨(ad.add (k * 6)).block, (ad.add (k * 6)).off + 1, none⟩ = some (.int .i64 q2) ∧ w'.cell? ⟨(ad.add (k * 6)).block, (ad.add (k * 6)).off + 2, none⟩ = some (.int .i64 o2) ∧ w'.cell? ⟨(ad.add (k * 6)).block, (ad.add (k * 6)).off + 3, none⟩ = some (.slice A7 d2.length p2) ∧ w'.cell? ⟨(ad.add (k * 6)).block, (ad.add (k * 6)).off + 4, none⟩ = some (.bool g2) ∧ w'.cell? ⟨(ad.add (k * 6)).block, (ad.add (k * 6)).off + 5, none⟩ = some (.int .i64 t2)) := fun w' hc => ⟨(HB6.out.keep hc (by simp)).cell 0, (HB6.out.keep hc (by simp)).cell 1, (HB6.out.keep hc (by simp)).cell 2, (HB6.out.keep hc (by simp)).cell 3, (HB6.out.keep hc (by simp)).cell 4, (HB6.out.keep hc (by simp)).cell 5, (hc.cell (by rw [add_block]; exact had) (by simp)).trans hc0, (hc.cell (p := ⟨(ad.add (k * 6)).block, (ad.add (k * 6)).off + 1, none⟩) (by show (ad.add (k * 6)).block < _; rw [add_block]; exact had) (by simp)).trans e1, (hc.cell (p := ⟨(ad.add (k * 6)).block, (ad.add (k * 6)).off + 2, none⟩) (by show (ad.add (k * 6)).block < _; rw [add_block]; exact had) (by simp)).trans e2, (hc.cell (p := ⟨(ad.add (k * 6)).block, (ad.add (k * 6)).off + 3, none⟩) (by show (ad.add (k * 6)).block < _; rw [add_block]; exact had) (by simp)).trans e3, (hc.cell (p := ⟨(ad.add (k * 6)).block, (ad.add (k * 6)).off + 4, none⟩) (by show (ad.add (k * 6)).block < _; rw [add_block]; exact had) (by simp)).trans e4, (hc.cell (p := ⟨(ad.add (k * 6)).block, (ad.add (k * 6)).off + 5, none⟩) (by show (ad.add (k * 6)).block < _; rw [add_block]; exact had) (by simp)).trans e5⟩
  clear hc0 e1 e2 e3 e4 e5
  have hq1 : ((k : Int) + 1 == (ls.length : Int)) = true := by rw [beq_iff_eq]; have := HK.out; have := HL3.out; have := HLN.out; omega
  have hk0 : (0 : Int) ≤ (k : Int) := by omega
  have hkb : k ≤ 1000 := by have := HK.out; have := HL3.out; omega
  have hk1 : (k : Int) < (k : Int) + 1 := by omega
  have hw : IntKind.i64.wrap (k : Int) = (k : Int) := IntWalk.i64_in _ (by omega)
  refine wp_region_held_drew (S := fun w' => w'.cell? ⟨g4, 0, none⟩ = some (.int .i64 m) ∧ w'.cell? ⟨g4, 1, none⟩ = some (.int .i64 q) ∧ w'.cell? ⟨g4, 2, none⟩ = some (.int .i64 o) ∧ w'.cell? ⟨g4, 3, none⟩ = some (.slice A4 d.length c4) ∧ w'.cell? ⟨g4, 4, none⟩ = some (.bool g) ∧ w'.cell? ⟨g4, 5, none⟩ = some (.int .i64 t) ∧ w'.cell? (ad.add (k * 6)) = some (.int .i64 m2) ∧ w'.cell? ⟨(ad.add (k * 6)).block, (ad.add (k * 6)).off + 1, none⟩ = some (.int .i64 q2) ∧ w'.cell? ⟨(ad.add (k * 6)).block, (ad.add (k * 6)).off + 2, none⟩ = some (.int .i64 o2) ∧ w'.cell? ⟨(ad.add (k * 6)).block, (ad.add (k * 6)).off + 3, none⟩ = some (.slice A7 d2.length p2) ∧ w'.cell? ⟨(ad.add (k * 6)).block, (ad.add (k * 6)).off + 4, none⟩ = some (.bool g2) ∧ w'.cell? ⟨(ad.add (k * 6)).block, (ad.add (k * 6)).off + 5, none⟩ = some (.int .i64 t2)) (by kernel_rfl) ?_ (fun hHeld => ?_)
  · exact KK.out _ ((Chg.refl [] wz).drewN 1)
  refine takeW (i := 0) (d := (some 43)) (v := ?_) rfl rfl (by kernel_rfl) (by kernel_rfl) (by kernel_rfl) (fun _ _ _ h => h) (by rfl) ?_ (by assumption) ?_
  rotate_left
  · intro w' hSw; (try dsimp only at hSw); go_simp; try with_reducible rfl
  try simp only [Act.put, List.setIfInBounds_toArray, List.set_cons_zero, List.set_cons_succ]
  refine takeW (i := 1) (d := (some 44)) (v := ?_) rfl rfl (by kernel_rfl) (by kernel_rfl) (by kernel_rfl) (fun _ _ _ h => h) (by rfl) ?_ (by assumption) ?_
  rotate_left
  · intro w' hSw; (try dsimp only at hSw); go_simp; try with_reducible rfl
  try simp only [Act.put, List.setIfInBounds_toArray, List.set_cons_zero, List.set_cons_succ]
  refine takeW (i := 2) (d := (some 45)) (v := ?_) rfl rfl (by kernel_rfl) (by kernel_rfl) (by kernel_rfl) (fun _ _ _ h => h) (by rfl) ?_ (by assumption) ?_
  rotate_left
  · intro w' hSw; (try dsimp only at hSw); go_simp; try with_reducible rfl
  try simp only [Act.put, List.setIfInBounds_toArray, List.set_cons_zero, List.set_cons_succ]
  refine takeW (i := 3) (d := (some 46)) (v := ?_) rfl rfl (by kernel_rfl) (by kernel_rfl) (by kernel_rfl) (fun _ _ _ h => h) (by rfl) ?_ (by assumption) ?_
  rotate_left
  · intro w' hSw; (try dsimp only at hSw); go_simp; try with_reducible rfl
  try simp only [Act.put, List.setIfInBounds_toArray, List.set_cons_zero, List.set_cons_succ]
  refine takeW (i := 4) (d := (some 47)) (v := ?_) rfl rfl (by kernel_rfl) (by kernel_rfl) (by kernel_rfl) (fun _ _ _ h => h) (by rfl) ?_ (by assumption) ?_
  rotate_left
  · intro w' hSw; (try dsimp only at hSw); go_simp; try with_reducible rfl
  try simp only [Act.put, List.setIfInBounds_toArray, List.set_cons_zero, List.set_cons_succ]
  refine takeW (i := 5) (d := (some 48)) (v := ?_) rfl rfl (by kernel_rfl) (by kernel_rfl) (by kernel_rfl) (fun _ _ _ h => h) (by rfl) ?_ (by assumption) ?_
  rotate_left
  · intro w' hSw; (try dsimp only at hSw); go_simp; try with_reducible rfl
  try simp only [Act.put, List.setIfInBounds_toArray, List.set_cons_zero, List.set_cons_succ]
  refine takeW (i := 6) (d := (some 49)) (v := ?_) rfl rfl (by kernel_rfl) (by kernel_rfl) (by kernel_rfl) (fun _ _ _ h => h) (by rfl) ?_ (by assumption) ?_
  rotate_left
  · intro w' hSw; (try dsimp only at hSw); go_simp; try with_reducible rfl
  try simp only [Act.put, List.setIfInBounds_toArray, List.set_cons_zero, List.set_cons_succ]
  refine takeW (i := 7) (d := (some 50)) (v := ?_) rfl rfl (by kernel_rfl) (by kernel_rfl) (by kernel_rfl) (fun _ _ _ h => h) (by rfl) ?_ (by assumption) ?_
  rotate_left
  · intro w' hSw; (try dsimp only at hSw); go_simp; try with_reducible rfl
  try simp only [Act.put, List.setIfInBounds_toArray, List.set_cons_zero, List.set_cons_succ]
  refine takeW (i := 8) (d := (some 51)) (v := ?_) rfl rfl (by kernel_rfl) (by kernel_rfl) (by kernel_rfl) (fun _ _ _ h => h) (by rfl) ?_ (by assumption) ?_
  rotate_left
  · intro w' hSw; (try dsimp only at hSw); go_simp; try with_reducible rfl
  try simp only [Act.put, List.setIfInBounds_toArray, List.set_cons_zero, List.set_cons_succ]
  refine takeW (i := 9) (d := (some 52)) (v := ?_) rfl rfl (by kernel_rfl) (by kernel_rfl) (by kernel_rfl) (fun _ _ _ h => h) (by rfl) ?_ (by assumption) ?_
  rotate_left
  · intro w' hSw; (try dsimp only at hSw); go_simp; try with_reducible rfl
  try simp only [Act.put, List.setIfInBounds_toArray, List.set_cons_zero, List.set_cons_succ]
  refine takeW (i := 10) (d := (some 53)) (v := ?_) rfl rfl (by kernel_rfl) (by kernel_rfl) (by kernel_rfl) (fun _ _ _ h => h) (by rfl) ?_ (by assumption) ?_
  rotate_left
  · intro w' hSw; (try dsimp only at hSw); go_simp; try with_reducible rfl
  try simp only [Act.put, List.setIfInBounds_toArray, List.set_cons_zero, List.set_cons_succ]
  refine takeW (i := 11) (d := (some 54)) (v := ?_) rfl rfl (by kernel_rfl) (by kernel_rfl) (by kernel_rfl) (fun _ _ _ h => h) (by rfl) ?_ (by assumption) ?_
  rotate_left
  · intro w' hSw; (try dsimp only at hSw); go_simp; try with_reducible rfl
  try simp only [Act.put, List.setIfInBounds_toArray, List.set_cons_zero, List.set_cons_succ]
  refine takeW (i := 12) (d := (some 55)) (v := ?_) rfl rfl (by kernel_rfl) (by kernel_rfl) (by kernel_rfl) (fun _ _ _ h => h) (by rfl) ?_ (by assumption) ?_
  rotate_left
  · intro w' hSw; (try dsimp only at hSw); go_simp; try with_reducible rfl
  try simp only [Act.put, List.setIfInBounds_toArray, List.set_cons_zero, List.set_cons_succ]
  refine takeW (i := 13) (d := (some 56)) (v := ?_) rfl rfl (by kernel_rfl) (by kernel_rfl) (by kernel_rfl) (fun _ _ _ h => h) (by rfl) ?_ (by assumption) ?_
  rotate_left
  · intro w' hSw; (try dsimp only at hSw); go_simp; try with_reducible rfl
  try simp only [Act.put, List.setIfInBounds_toArray, List.set_cons_zero, List.set_cons_succ]
  refine takeW (i := 14) (d := (some 57)) (v := ?_) rfl rfl (by kernel_rfl) (by kernel_rfl) (by kernel_rfl) (fun _ _ _ h => h) (by rfl) ?_ (by assumption) ?_
  rotate_left
  · intro w' hSw; (try dsimp only at hSw); go_simp; try with_reducible rfl
  try simp only [Act.put, List.setIfInBounds_toArray, List.set_cons_zero, List.set_cons_succ]
  refine takeW (i := 15) (d := (some 58)) (v := ?_) rfl rfl (by kernel_rfl) (by kernel_rfl) (by kernel_rfl) (fun _ _ _ h => h) (by rfl) ?_ (by assumption) ?_
  rotate_left
  · intro w' hSw; (try dsimp only at hSw); go_simp; try with_reducible rfl
  try simp only [Act.put, List.setIfInBounds_toArray, List.set_cons_zero, List.set_cons_succ]
  refine wpAnyH_ready (rs := [16]) (by kernel_rfl) (by simp) ?_
  refine AllReadyH.cons rfl (fun K hK => ?_) AllReadyH.nil
  go_simp
  (with_reducible refine (refSameV_any _ m q o A4 d c4 g t m2 q2 o2 A7 d2 p2 g2 t2 (HD4.out.keep0 ((by repeat' (first | (with_reducible assumption) | (with_reducible exact Chg.refl _ _) | (with_reducible refine Chg.alloc ?_ _) | (with_reducible refine Chg.drewN ?_ _) | (with_reducible refine Chg.drew ?_) | (with_reducible refine Chg.strW ?_ _ _) | (with_reducible refine Chg.t0 ?_ (by with_reducible assumption)))) : Chg [] wz _)) (HD7.out.keep0 ((by repeat' (first | (with_reducible assumption) | (with_reducible exact Chg.refl _ _) | (with_reducible refine Chg.alloc ?_ _) | (with_reducible refine Chg.drewN ?_ _) | (with_reducible refine Chg.drew ?_) | (with_reducible refine Chg.strW ?_ _ _) | (with_reducible refine Chg.t0 ?_ (by with_reducible assumption)))) : Chg [] wz _))).mono ?_)
  rintro e w3 ⟨rfl, hch3⟩
  rw [HSM.out]
  have hch23 : Hid (Chg [] wz w3) := ((by repeat' (first | (with_reducible assumption) | (with_reducible exact Chg.refl _ _) | (with_reducible refine Chg.alloc ?_ _) | (with_reducible refine Chg.drewN ?_ _) | (with_reducible refine Chg.drew ?_) | (with_reducible refine Chg.strW ?_ _ _) | (with_reducible refine Chg.t0 ?_ (by with_reducible assumption)))) : Chg [] wz w3)
  go_wp2_with (fail)
  refine hK.out _ _ ?_ (fun hHeld => ?_)
  · first | exact KK.out _ hch23.out | (dsimp only; exact KK.out _ hch23.out)
  clear hK K
  try simp only [Act.put, List.setIfInBounds_toArray, List.set_cons_zero, List.set_cons_succ]
  refine takeW (i := 17) (d := (some 60)) (v := ?_) rfl rfl (by kernel_rfl) (by kernel_rfl) (by kernel_rfl) (fun _ _ _ h => h) (by rfl) ?_ (by assumption) ?_
  rotate_left
  · intro w' hSw; (try dsimp only at hSw); go_simp; try with_reducible rfl
  try simp only [Act.put, List.setIfInBounds_toArray, List.set_cons_zero, List.set_cons_succ]
  refine takeW (i := 18) (d := (some 61)) (v := ?_) rfl rfl (by kernel_rfl) (by kernel_rfl) (by kernel_rfl) (fun _ _ _ h => h) (by rfl) ?_ (by assumption) ?_
  rotate_left
  · intro w' hSw; (try dsimp only at hSw); go_simp; try with_reducible rfl
  try simp only [Act.put, List.setIfInBounds_toArray, List.set_cons_zero, List.set_cons_succ]
  refine takeW (i := 19) (d := (some 62)) (v := ?_) rfl rfl (by kernel_rfl) (by kernel_rfl) (by kernel_rfl) (fun _ _ _ h => h) (by rfl) ?_ (by assumption) ?_
  rotate_left
  · intro w' hSw; (try dsimp only at hSw); go_simp; try with_reducible rfl
  try simp only [Act.put, List.setIfInBounds_toArray, List.set_cons_zero, List.set_cons_succ]
  refine takeW (i := 20) (d := (some 63)) (v := ?_) rfl rfl (by kernel_rfl) (by kernel_rfl) (by kernel_rfl) (fun _ _ _ h => h) (by rfl) ?_ (by assumption) ?_
  rotate_left
  · intro w' hSw; (try dsimp only at hSw); go_simp; try with_reducible rfl
  try simp only [Act.put, List.setIfInBounds_toArray, List.set_cons_zero, List.set_cons_succ]
  refine takeW (i := 21) (d := (some 64)) (v := ?_) rfl rfl (by kernel_rfl) (by kernel_rfl) (by kernel_rfl) (fun _ _ _ h => h) (by rfl) ?_ (by assumption) ?_
  rotate_left
  · intro w' hSw; (try dsimp only at hSw); go_simp; try with_reducible rfl
  try simp only [Act.put, List.setIfInBounds_toArray, List.set_cons_zero, List.set_cons_succ]
  refine takeW (i := 22) (d := (some 65)) (v := ?_) rfl rfl (by kernel_rfl) (by kernel_rfl) (by kernel_rfl) (fun _ _ _ h => h) (by rfl) ?_ (by assumption) ?_
  rotate_left
  · intro w' hSw; (try dsimp only at hSw); go_simp; try with_reducible rfl
  try simp only [Act.put, List.setIfInBounds_toArray, List.set_cons_zero, List.set_cons_succ]
  refine wpAnyH_ready (rs := [23]) (by kernel_rfl) (by simp) ?_
  refine AllReadyH.cons rfl (fun K hK => ?_) AllReadyH.nil
  go_simp
  have hq := hch23.out
  clear hch23 hch3
  refine (known_any _).mono ?_
  rintro e w3 ⟨rfl, hch3⟩
  have hch23 : Hid (Chg [] wz w3) := ((by repeat' (first | (with_reducible assumption) | (with_reducible exact Chg.refl _ _) | (with_reducible refine Chg.alloc ?_ _) | (with_reducible refine Chg.drewN ?_ _) | (with_reducible refine Chg.drew ?_) | (with_reducible refine Chg.strW ?_ _ _) | (with_reducible refine Chg.t0 ?_ (by with_reducible assumption)))) : Chg [] wz w3)
  go_wp2_with (fail)
  refine hK.out _ _ ?_ (fun hHeld => ?_)
  · first | exact KK.out _ hch23.out | (dsimp only; exact KK.out _ hch23.out)
  clear hK K
  try simp only [Act.put, List.setIfInBounds_toArray, List.set_cons_zero, List.set_cons_succ]
  refine takeW (i := 24) (d := (some 67)) (v := ?_) rfl rfl (by kernel_rfl) (by kernel_rfl) (by kernel_rfl) (fun _ _ _ h => h) (by rfl) ?_ (by assumption) ?_
  rotate_left
  · intro w' hSw; (try dsimp only at hSw); go_simp; try with_reducible rfl
  try simp only [Act.put, List.setIfInBounds_toArray, List.set_cons_zero, List.set_cons_succ]
  refine takeW (i := 25) (d := (some 2)) (v := ?_) rfl rfl (by kernel_rfl) (by kernel_rfl) (by kernel_rfl) (fun _ _ _ h => h) (by rfl) ?_ (by assumption) ?_
  rotate_left
  · intro w' hSw; (try dsimp only at hSw); go_simp; try with_reducible rfl
  try simp only [Act.put, List.setIfInBounds_toArray, List.set_cons_zero, List.set_cons_succ]
  refine wpAnyH_done (by kernel_rfl) ?_ _
  go_wp2_with (fail)
  go_ret
  exact ⟨rfl, HCZ.out.trans hch23.out (by simp)⟩
end Go.Proofs.Ytmliclfepnebfaa
