
/-
  ChainPlays: the walk of the law.
-/
import Derived.Test.YtmliclfepnebfaaChTw
import Derived.Test.YtmliclfepnebfaaOpenC
import Derived.Deep.DeepCutAuto
import Derived.Deep.CutBlock
namespace Go.Proofs.Ytmliclfepnebfaa
open Go.RowKit
set_option linter.unusedVariables false
set_option linter.unusedSimpArgs false
theorem own_pre {w : World} {b : Nat} {A : Option Addr} {c : Nat} {d : List UInt8} (h : w.ownsRow b 5 1 (.slice A (d.length + 1) c) (d.length + 1) (cB (d ++ [171]))) : w.ownsRow b 5 1 (.slice A d.length c) d.length (cB d) := by
  have h1 := own_prefix h (Nat.le_succ d.length)
  have e : (cB (d ++ [171])).take d.length = cB d := by simp [cB]
  rwa [e] at h1
theorem getD_len {l : List VV} (h : Valid l) (s : St) : (getD l s).length ≤ 1099511627776 := by
  unfold getD
  split
  · rename_i hb
    have hb2 : atB l s = true := by unfold getB at hb; exact (Bool.and_eq_true_iff.1 hb).1
    have := (isVV_iff.1 (h _ (atX_mem hb2))).d
    omega
  · simp
theorem pl_set {w0 w : World} {gc gr : Nat} {l l2 : List VV} {rs : List Res} {g : Nat} {T : TypeId} {cs cs' : Array Value} (h : Pl w0 w gc gr l l2 (rAt g T cs :: rs)) (u : Value) (j : Nat) (hc : cs' = cs.setIfInBounds j u := by rfl) : Pl w0 (w.setCell ⟨g, j, none⟩ u) gc gr l l2 (rAt g T cs' :: rs) := by
  subst hc
  refine h.beside fun ts H => ?_
  have hA : At w g T cs := H.get 0 rfl
  exact H.same (((Chg.refl [g] w).setCell (.inl (by simp)) u)) (P' := fun w => At w g T (cs.setIfInBounds j u)) (hA.set_ j u) (fun w1 w2 h1 hs hk => At.stable h1 (hk g (At.lt h1) (.inl (by simp))))
set_option maxRecDepth 100000 in
set_option maxHeartbeats 12800000 in
theorem chainPlays_law (w : World) (x : Sl VrV) (hx : Rd w 6 x.A x.ls.length (x.ls.flatMap VrV.cells) ∧ x.ls.length ≤ x.c ∧ x.c ≤ maxLen ∧ x.ls.length * 64 ≤ 140737488351232 ∧ ∀ a ∈ x.ls, VrV.InN w a) (y : Sl CAct) (hy : Rd w 9 y.A y.ls.length (y.ls.flatMap CAct.cells) ∧ y.ls.length ≤ y.c ∧ y.c ≤ maxLen ∧ y.ls.length * 88 ≤ 140737488351232 ∧ ∀ a ∈ y.ls, CAct.In w a) :
    Calls Try.prog 3 #[.slice x.A x.ls.length x.c, .slice y.A y.ls.length y.c] w fun e w' => e = .returned (.bool true) ∧ Chg [] w w' := by
  have hX := Vers.of hx
  obtain ⟨A, c, ls⟩ := x
  obtain ⟨B, cb0, acs⟩ := y
  obtain ⟨hyr, _, _, hyl, hyb⟩ := hy
  clear hx
  simp only at hyl
  have HYR : Hid (Rd w 9 B acs.length (cCA acs)) := hyr
  have HYB : Hid (∀ a ∈ acs, CAct.In w a) := hyb
  have hal : acs.length ≤ 140737488351232 := by omega
  clear hyr hyl hyb
  have HX := Lib.hid hX
  have hll : ls.length ≤ 140737488351232 := hX.len
  have HR : Hid (Rd w 6 A ls.length (cVr ls)) := hX.rd
  have HVL : Hid (∀ x ∈ ls, x.val.length ≤ 140737488351232) := fun x hx => (hX.dat x hx).vl
  clear hX
  obtain ⟨i1, hi1, hy0, hy1, hy2⟩ := info_parts info_ver
  obtain ⟨i8, hi8, hz0, hz1, hz2⟩ := info_parts info8
  show Calls Try.prog 3 #[.slice A ls.length c, .slice B acs.length cb0] w _
  go_enter Try.func3, Try.ntmps3
  go_upto_block 0 with (fail)
  go_cut [] (fun wx => Hid (∀ j (h : j < acs.length), j < 100 → (acs[j]).V.val.length ≤ 8000) ∧ Hid (Chg [] w wx))
  case first =>
    go_wp2_with (fail)
    go_loopw [6, 5] (fun i nn wr => ∃ (k : Nat) (x : Nat), k ≤ acs.length ∧ k ≤ 100 ∧ i = .int .i64 k ∧ nn = .int .i64 x ∧ x ≤ 8000 ∧ Hid (∀ j (h : j < acs.length), j < k → (acs[j]).V.val.length ≤ 8000) ∧ Hid (Chg [] w wr)) (fun i _ _ => acs.length - (intOf i).toNat)
    case atStart => exact ⟨0, 0, Nat.zero_le _, Nat.zero_le _, rfl, rfl, by omega, (by intro j h hj; omega), Chg.refl _ _⟩
    case round =>
      obtain ⟨k, x, hk, hk2, rfl, rfl, hx, HI, HCr⟩ := hrel
      by_cases hlt : k < acs.length
      · have hki : (k : Int) < (acs.length : Int) := by omega
        by_cases h100 : k < 100
        · have hkj : (k : Int) < 100 := by omega
          have hk0 : (0 : Int) ≤ (k : Int) := by omega
          have hvl := (HYB.out _ (List.getElem_mem hlt)).V.vl
          obtain ⟨ad, hAd, had, hc0, hc⟩ := (HYR.out.keep0 HCr.out).getCA hlt
          have hc4 := hc 4 _ (by omega) rfl
          have hc4b : wr.cell? ⟨(ad.add (k * 9)).block, (ad.add (k * 9)).off + 1 + 3, none⟩ = _ := hc4
          have HI2 : Hid ((acs[k]).V.val.length ≤ 8000 → ∀ j (h : j < acs.length), j < k + 1 → (acs[j]).V.val.length ≤ 8000) := fun h0 j h hj => by
            by_cases e : j = k
            · subst e; exact h0
            · exact HI.out j h (by omega)
          clear hc hc0 HI
          generalize acs[k] = a at *
          obtain ⟨kd, ⟨m, q, o, A', d, p, g, t⟩, sm, sc⟩ := a
          simp only at hc4 hc4b hvl HI2
          subst hAd
          by_cases h8 : 8000 < x + 30 + d.length
          · have h8i : (8000 : Int) < (x : Int) + 30 + (d.length : Int) := by omega
            go_wp2_with (fail)
            go_ret
            exact ⟨rfl, HCr.out⟩
          · have h8i : ¬ (8000 : Int) < (x : Int) + 30 + (d.length : Int) := by omega
            have HI3 := Lib.hid (HI2.out (by omega))
            clear HI2
            go_wp2_with (fail)
            go_roundw
            case rel => exact ⟨k + 1, x + 30 + d.length, by omega, by omega, by go_num, by go_num, by omega, HI3.out, HCr.out⟩
            case measure => simp [intOf]; omega
        · have hkj : ¬ (k : Int) < 100 := by omega
          go_wp2_with (fail)
          go_meet
          exact ⟨Lib.hid (fun j h hj => HI.out j h (by omega)), HCr⟩
      · have hki : ¬ (k : Int) < (acs.length : Int) := by omega
        go_wp2_with (fail)
        go_meet
        exact ⟨Lib.hid (fun j h hj => HI.out j h (by omega)), HCr⟩
  case rest =>
  obtain ⟨HW, HC0⟩ := hcut
  generalize wc = w0 at *
  have HR0 := Lib.hid (HR.out.keep0 HC0.out)
  clear HR
  go_wp2_with (fail)
  refine (heavyV_any w0 A c ls HR0.out hll HVL.out).mono ?_
  rintro e w1 ⟨hv, rfl, hhv, hc1⟩
  have HC1 := Lib.hid (HC0.out.trans hc1 (by simp))
  cases hv
  rotate_left
  · clear hhv
    go_wp2_with (fail)
    go_ret
    exact ⟨rfl, HC1.out⟩
  have hsum := Lib.hid (hhv rfl)
  clear hhv
  have hl1 : ls.length ≤ 1000 := by have := hsum.out; omega
  have HLA := Lib.hid ((HX.out.laid hsum.out).keep HC1.out)
  clear HX HC0 HR0 hc1 HVL
  have HCL : Hid (∀ u ∈ cVr ls, u.oneCell' = true) := cVr_one ls
  go_wp2_with (at_builtin; refine wpList_append_rd _ rfl (.tmp 49) (.tmp 50) 22 (by rfl) w1.heap.size 28 i1 _ 6 64 Try.underlying22 hi1 hy0 hy1 hy2 rfl (by omega) (.slice (some ⟨w1.heap.size, 0, none⟩) 0 0) 0 [] (by rfl) (World.ownsRow_made w1 #[] 0 (Nat.le_refl _) (by simp [maxLen]) rfl) A ls.length c (cVr ls) (by rfl) (HLA.out.rd.alloc _) HCL.out (by unfold maxLen; omega) (by omega) (by simp) ?_; intro A2 c2 w2 hown2 hg2 hb2; simp only [Nat.zero_add, List.nil_append] at hown2 ⊢; have hc2 : Chg [] w1 w2 := ((Chg.refl [] w1).alloc _).grown hg2 (fun k hk => .inr (by simp [Value.ownBlock] at hk; omega)); have HL2 : Hid (Laid w2 A2 ls) := ⟨Rd.of_own hown2, (HLA.out.keep hc2).dat, HLA.out.len, HLA.out.nil_⟩; have HLA2 := Lib.hid (HLA.out.keep hc2); have HC2 := Lib.hid (HC1.out.trans hc2 (by simp)); clear hown2 hg2 hb2 hc2)
  refine (ofC_any w2 A2 c2 ls HL2.out (by omega)).mono ?_
  rintro e w3 (⟨hz, gc, rfl, hA, hG, hl⟩ | ⟨hz, rfl, hc3⟩)
  rotate_left
  · have HL3 := Lib.hid (HLA2.out.keep hc3)
    have HC3 := Lib.hid (HC2.out.trans hc3 (by simp))
    clear hc3
    go_wp2_with (fail)
    refine (ofRef_any w3 A c ls HL3.out (by omega)).mono ?_
    rintro e w4 (⟨hz', _⟩ | ⟨_, rfl, hc4⟩)
    · exact absurd hz' hz
    have HC4 := Lib.hid (HC3.out.trans hc4 (by simp))
    generalize (ofR [] (List.map VrV.v ls)).1 = er at *
    have hb : (er != 0) = true := by rw [bne_iff_ne]; exact hz
    clear hz hc4
    go_wp2_with (fail)
    refine (known_any _).mono ?_
    rintro e wk ⟨rfl, hck⟩
    go_wp2_with (fail)
    go_ret
    exact ⟨rfl, HC4.out.trans hck (by simp)⟩
  have HL3 := Lib.hid (HLA2.out.keep hA.chg)
  have HN3 := Lib.hid hA
  have HZ := Lib.hid hz
  clear hA HL2
  go_wp2_with (fail)
  refine (ofRef_any w3 A c ls HL3.out (by omega)).mono ?_
  rintro e w4 (⟨_, gr, rfl, hR, _, _⟩ | ⟨hz', _⟩)
  rotate_left
  · exact absurd hz hz'
  rw [List.length_map] at hl
  have HG := Lib.hid hG
  have HP0 := Lib.hid (Pl.start (HN3.out.embed ((All.start w).quiet HC2.out)) hR)
  clear hR HN3 hG hz HZ HL3 HLA HLA2 HC1 HC2
  generalize (ofR [] (List.map VrV.v ls)).2 = acc0 at *
  go_wp2_with (fail)
  go_loopw [11] (fun i wr => ∃ (k : Nat) (acc : List VV), k ≤ acs.length ∧ k ≤ 100 ∧ i = .int .i64 k ∧ Hid (Good acc ∧ acc.length ≤ 1000 + k) ∧ Hid (Pl w wr gc gr acc acc [])) (fun i _ => acs.length - (intOf i).toNat)
  case atStart => exact ⟨0, acc0, Nat.zero_le _, Nat.zero_le _, rfl, ⟨HG.out, by omega⟩, HP0.out⟩
  case round =>
    clear HP0 HG hl
    obtain ⟨k, acc, hk, hk2, rfl, HGL, HP⟩ := hrel
    have HG := Lib.hid HGL.out.1
    have hacc := HGL.out.2
    have hal9 : acc.length ≤ 1000000 := by omega
    clear HGL
    by_cases hlt : k < acs.length
    · have hki : (k : Int) < (acs.length : Int) := by omega
      by_cases h100 : k < 100
      · have hkj : (k : Int) < 100 := by omega
        have hk0 : (0 : Int) ≤ (k : Int) := by omega
        have hIn := HYB.out _ (List.getElem_mem hlt)
        have hdl := HW.out k hlt h100
        obtain ⟨ad, hAd, had, c0, hc⟩ := (HYR.out.keep0 HP.out.chg).getCA hlt
        have c1 := hc 1 _ (by omega) rfl
        have c2 := hc 2 _ (by omega) rfl
        have c3 := hc 3 _ (by omega) rfl
        have c4 := hc 4 _ (by omega) rfl
        have c5 := hc 5 _ (by omega) rfl
        have c6 := hc 6 _ (by omega) rfl
        have c7 := hc 7 _ (by omega) rfl
        have c8 := hc 8 _ (by omega) rfl
        generalize acs[k] = a at *
        obtain ⟨kd, ⟨m, q, o, A', d, p, g, t⟩, sm, sc⟩ := a
        have hsm : sm ≤ 9223372036854775807 := hIn.s1
        have HD : Hid (Rd w 1 A' d.length (cB d)) := hIn.V.rd
        have hdn : Hid (A' = none → p = 0) := hIn.V.nil_
        simp only at c0 c1 c2 c3 c4 c5 c6 c7 c8 hdl
        clear hc hIn
        subst hAd
        go_upto_block 4 with (fail)
        go_cut [] (fun wx => ∃ acc2, Hid (Good acc2 ∧ acc2.length ≤ 1000 + k + 1) ∧ Hid (Pl w wx gc gr acc2 acc2 []))
        case first =>
          have HP12 := Lib.hid (HP.out.newAt 30 #[.int .i64 kd, .int .i64 m, .int .i64 q, .int .i64 o, .slice A' d.length p, .bool g, .int .i64 t, .int .i64 sm, .int .i64 sc] rfl)
          have HB12 := Lib.hid (At.new wr 30 #[.int .i64 kd, .int .i64 m, .int .i64 q, .int .i64 o, .slice A' d.length p, .bool g, .int .i64 t, .int .i64 sm, .int .i64 sc])
          clear c0 c1 c2 c3 c4 c5 c6 c7 c8 HP
          generalize wr.alloc (.cells #[.int .i64 kd, .int .i64 m, .int .i64 q, .int .i64 o, .slice A' d.length p, .bool g, .int .i64 t, .int .i64 sm, .int .i64 sc] 30) = wx at *
          generalize wr.heap.size = g12 at *
          by_cases hkd : kd = 1
          · skip
            have hk1 : (kd == 1) = true := by rw [beq_iff_eq]; exact hkd
            clear hkd
            have HP := Lib.hid ((HP12.out.newAt 28 #[.int .i64 m, .int .i64 q, .int .i64 o, .slice A' d.length p, .bool g, .int .i64 t] rfl))
            have HBV := Lib.hid (At.new wx 28 #[.int .i64 m, .int .i64 q, .int .i64 o, .slice A' d.length p, .bool g, .int .i64 t])
            have s0 := At.cell (HB12.out) 0
            have s1 := At.cell (HB12.out) 1
            have s2 := At.cell (HB12.out) 2
            have s3 := At.cell (HB12.out) 3
            have s4 := At.cell (HB12.out) 4
            have s5 := At.cell (HB12.out) 5
            have s6 := At.cell (HB12.out) 6
            have s7 := At.cell (HB12.out) 7
            have s8 := At.cell (HB12.out) 8
            simp only [List.getElem?_toArray, List.getElem?_cons_zero, List.getElem?_cons_succ] at s0 s1 s2 s3 s4 s5 s6 s7 s8
            go_upto_region 23 with (fail)
            clear s0 s1 s2 s3 s4 s5 s6 s7 s8
            obtain ⟨g13, hg13⟩ : ∃ g, wx.heap.size = g := ⟨_, rfl⟩
            rw [hg13] at HP HBV ⊢
            generalize wx.alloc (.cells #[.int .i64 m, .int .i64 q, .int .i64 o, .slice A' d.length p, .bool g, .int .i64 t] 28) = wz at *
            clear hg13
            have KK : Hid (∀ w', Chg [] wz w' → w'.cell? ⟨g12, 1 + 3, none⟩ = some (.slice A' d.length p) ∧ w'.cell? ⟨g12, 4, none⟩ = some (.slice A' d.length p) ∧ w'.frozen? ⟨g13, 3, none⟩ = false ∧ w'.cell? ⟨g13, 3, none⟩ = some (.slice A' d.length p)) := fun w' hc => ⟨At.cell ((HP.out.quiet hc).get 1 rfl) 4, At.cell ((HP.out.quiet hc).get 1 rfl) 4, At.free ((HP.out.quiet hc).get 0 rfl) 3, At.cell ((HP.out.quiet hc).get 0 rfl) 3⟩
            clear HP12 HBV HB12
            refine wp_regionE 10 (fun w' => w'.cell? ⟨g12, 1 + 3, none⟩ = some (.slice A' d.length p) ∧ w'.cell? ⟨g12, 4, none⟩ = some (.slice A' d.length p) ∧ w'.frozen? ⟨g13, 3, none⟩ = false ∧ w'.cell? ⟨g13, 3, none⟩ = some (.slice A' d.length p)) (by kernel_rfl) ?_ (fun hHeld => ?_)
            · exact KK.out _ ((Chg.refl [] wz).drew)
            have HDR : Hid (Chg [] wz wz.drew) := (Chg.refl [] wz).drew
            generalize wz.drew = wd at *
            have HPd := Lib.hid (HP.out.quiet HDR.out)
            have HDd := Lib.hid (HD.out.keep0 HPd.out.chg)
            have KD : Hid (∀ w', Chg [] wd w' → w'.cell? ⟨g12, 1 + 3, none⟩ = some (.slice A' d.length p) ∧ w'.cell? ⟨g12, 4, none⟩ = some (.slice A' d.length p) ∧ w'.frozen? ⟨g13, 3, none⟩ = false ∧ w'.cell? ⟨g13, 3, none⟩ = some (.slice A' d.length p)) := fun w' hc => KK.out _ (HDR.out.trans hc (by simp))
            clear KK HP
            refine takeWE (i := 0) (d := (some 93)) (v := ?_) rfl rfl (by kernel_rfl) (by kernel_rfl) (by kernel_rfl) (by kernel_rfl) (by kernel_rfl) (fun _ _ _ h => h) (by rfl) ?_ (by assumption) ?_
            rotate_left
            · intro w' hSw; (try dsimp only at hSw); go_simp; try with_reducible rfl
            try simp only [Act.put, List.setIfInBounds_toArray, List.set_cons_zero, List.set_cons_succ]
            refine takeWE (i := 1) (d := (some 94)) (v := ?_) rfl rfl (by kernel_rfl) (by kernel_rfl) (by kernel_rfl) (by kernel_rfl) (by kernel_rfl) (fun _ _ _ h => h) (by rfl) ?_ (by assumption) ?_
            rotate_left
            · intro w' hSw; (try dsimp only at hSw); go_simp; try with_reducible rfl
            try simp only [Act.put, List.setIfInBounds_toArray, List.set_cons_zero, List.set_cons_succ]
            refine takeWE (i := 2) (d := (some 95)) (v := ?_) rfl rfl (by kernel_rfl) (by kernel_rfl) (by kernel_rfl) (by kernel_rfl) (by kernel_rfl) (fun _ _ _ h => h) (by rfl) ?_ (by assumption) ?_
            rotate_left
            · intro w' hSw; (try dsimp only at hSw); go_simp; try with_reducible rfl
            try simp only [Act.put, List.setIfInBounds_toArray, List.set_cons_zero, List.set_cons_succ]
            refine takeWE (i := 4) (d := (some 97)) (v := ?_) rfl rfl (by kernel_rfl) (by kernel_rfl) (by kernel_rfl) (by kernel_rfl) (by kernel_rfl) (fun _ _ _ h => h) (by rfl) ?_ (by assumption) ?_
            rotate_left
            · intro w' hSw; (try dsimp only at hSw); go_simp; try with_reducible rfl
            try simp only [Act.put, List.setIfInBounds_toArray, List.set_cons_zero, List.set_cons_succ]
            refine takeWE (i := 5) (d := (some 98)) (v := ?_) rfl rfl (by kernel_rfl) (by kernel_rfl) (by kernel_rfl) (by kernel_rfl) (by kernel_rfl) (fun _ _ _ h => h) (by rfl) ?_ (by assumption) ?_
            rotate_left
            · intro w' hSw; (try dsimp only at hSw); go_simp; try with_reducible rfl
            try simp only [Act.put, List.setIfInBounds_toArray, List.set_cons_zero, List.set_cons_succ]
            refine takeWE (i := 6) (d := (some 99)) (v := ?_) rfl rfl (by kernel_rfl) (by kernel_rfl) (by kernel_rfl) (by kernel_rfl) (by kernel_rfl) (fun _ _ _ h => h) (by rfl) ?_ (by assumption) ?_
            rotate_left
            · intro w' hSw; (try dsimp only at hSw); go_simp; try with_reducible rfl
            try simp only [Act.put, List.setIfInBounds_toArray, List.set_cons_zero, List.set_cons_succ]
            refine takeWE (i := 7) (d := (some 100)) (v := ?_) rfl rfl (by kernel_rfl) (by kernel_rfl) (by kernel_rfl) (by kernel_rfl) (by kernel_rfl) (fun _ _ _ h => h) (by rfl) ?_ (by assumption) ?_
            rotate_left
            · intro w' hSw; (try dsimp only at hSw); go_simp; try with_reducible rfl
            try simp only [Act.put, List.setIfInBounds_toArray, List.set_cons_zero, List.set_cons_succ]
            refine wpE_ready (rs := [3]) (by kernel_rfl) (by simp) ?_
            refine AllE.cons rfl (fun K hK => ?_) (AllE.nil)
            go_simp
            go_at_call 14
            (with_reducible refine (roomy_any _ A' d.length p d rfl (HDd.out) (by omega)).mono ?_)
            rintro e w5 ⟨A5, c5, rfl, hown5, hch5⟩
            have HC5 := Lib.hid hch5
            have HO5 := Lib.hid hown5
            have hcap5 := own_cap hown5
            have sh5 := fun w => run_slice_hi (P := Try.prog) w Try.underlying26 hi8 A5 (d.length + 1) c5 (d.length : Int) d.length rfl (by omega)
            clear hown5 hch5
            go_wp2_with (fail)
            refine hK.out _ _ ?_ (fun hHeld => ?_)
            · exact KD.out _ HC5.out
            clear hK K
            try simp only [Act.put, List.setIfInBounds_toArray, List.set_cons_zero, List.set_cons_succ]
            refine takeWE (i := 8) (d := (some 101)) (v := ?_) rfl rfl (by kernel_rfl) (by kernel_rfl) (by kernel_rfl) (by kernel_rfl) (by kernel_rfl) (fun _ _ _ h => h) (by rfl) ?_ (by assumption) ?_
            rotate_left
            · intro w' hSw; (try dsimp only at hSw); go_simp; try with_reducible rfl
            try simp only [Act.put, List.setIfInBounds_toArray, List.set_cons_zero, List.set_cons_succ]
            refine takeWE (i := 9) (d := (some 102)) (v := ?_) rfl rfl (by kernel_rfl) (by kernel_rfl) (by kernel_rfl) (by kernel_rfl) (by kernel_rfl) (fun _ _ _ h => h) (by rfl) ?_ (by assumption) ?_
            rotate_left
            · intro w' hSw; (try dsimp only at hSw); go_simp; try with_reducible rfl
            try simp only [Act.put, List.setIfInBounds_toArray, List.set_cons_zero, List.set_cons_succ]
            refine wpE_ready (rs := [10]) (by kernel_rfl) (by simp) ?_
            refine AllE.last rfl (by kernel_rfl) (fun K hK => ?_)
            have f13 := (KD.out _ HC5.out).2.2.1
            have f14 := (KD.out _ HC5.out).2.2.2
            go_simp
            go_wp2_with (fail)
            refine hK.out _ _ ?_
            clear hK K hHeld f13 f14 sh5
            have HP5 : Hid (Pl w (w5.setCell ⟨g13, 3, none⟩ (.slice A5 d.length c5)) gc gr acc acc [rAt g13 28 #[.int .i64 m, .int .i64 q, .int .i64 o, .slice A5 d.length c5, .bool g, .int .i64 t], rRow 0 5 A5 (d.length + 1) c5 (cB (d ++ [171])), rAt g12 30 #[.int .i64 kd, .int .i64 m, .int .i64 q, .int .i64 o, .slice A' d.length p, .bool g, .int .i64 t, .int .i64 sm, .int .i64 sc]]) := by
              refine Lib.hid (pl_set (((HPd.out.row HC5.out HO5.out)).swap) (.slice A5 d.length c5) 3)
            have HN5 : Hid (A5 = none → c5 = 0) := own_nil HO5.out
            have HPD := Lib.hid (HP5.out.quiet ((Chg.refl [] _).drew))
            clear HC5 HO5 HDd KD HPd
            go_upto_region 24 with (fail)
            generalize w5.setCell ⟨g13, 3, none⟩ (.slice A5 d.length c5) = wy at *
            obtain ⟨bi, HIS⟩ : ∃ b, Hid (isV m q o d g t = b) := ⟨_, Lib.hid rfl⟩
            have hdd : decide (d = d) = true := decide_eq_true rfl
            refine wp_regionE 25 (fun w' => w'.cell? ⟨g12, 1, none⟩ = some (.int .i64 m) ∧ w'.cell? ⟨g12, 2, none⟩ = some (.int .i64 q) ∧ w'.cell? ⟨g12, 3, none⟩ = some (.int .i64 o) ∧ w'.cell? ⟨g12, 4, none⟩ = some (.slice A' d.length p) ∧ w'.cell? ⟨g12, 5, none⟩ = some (.bool g) ∧ w'.cell? ⟨g12, 6, none⟩ = some (.int .i64 t) ∧ w'.cell? ⟨g12, 1 + 1, none⟩ = some (.int .i64 q) ∧ w'.cell? ⟨g12, 1 + 2, none⟩ = some (.int .i64 o) ∧ w'.cell? ⟨g12, 1 + 3, none⟩ = some (.slice A' d.length p) ∧ w'.cell? ⟨g12, 1 + 4, none⟩ = some (.bool g) ∧ w'.cell? ⟨g12, 1 + 5, none⟩ = some (.int .i64 t) ∧ w'.cell? ⟨g13, 0, none⟩ = some (.int .i64 m) ∧ w'.cell? ⟨g13, 1, none⟩ = some (.int .i64 q) ∧ w'.cell? ⟨g13, 2, none⟩ = some (.int .i64 o) ∧ w'.cell? ⟨g13, 3, none⟩ = some (.slice A5 d.length c5) ∧ w'.cell? ⟨g13, 4, none⟩ = some (.bool g) ∧ w'.cell? ⟨g13, 5, none⟩ = some (.int .i64 t)) (by kernel_rfl) ?_ (fun hHeld => ?_)
            · exact ⟨At.cell (HPD.out.get 2 rfl) 1, At.cell (HPD.out.get 2 rfl) 2, At.cell (HPD.out.get 2 rfl) 3, At.cell (HPD.out.get 2 rfl) 4, At.cell (HPD.out.get 2 rfl) 5, At.cell (HPD.out.get 2 rfl) 6, At.cell (HPD.out.get 2 rfl) 2, At.cell (HPD.out.get 2 rfl) 3, At.cell (HPD.out.get 2 rfl) 4, At.cell (HPD.out.get 2 rfl) 5, At.cell (HPD.out.get 2 rfl) 6, At.cell (HPD.out.get 0 rfl) 0, At.cell (HPD.out.get 0 rfl) 1, At.cell (HPD.out.get 0 rfl) 2, At.cell (HPD.out.get 0 rfl) 3, At.cell (HPD.out.get 0 rfl) 4, At.cell (HPD.out.get 0 rfl) 5⟩
            have HDR : Hid (Chg [] wy wy.drew) := (Chg.refl [] wy).drew
            generalize wy.drew = we at *
            have HPd := Lib.hid (HP5.out.quiet HDR.out)
            have HW0 := Lib.hid (Rd.of_own (own_pre (HPd.out.get 1 rfl)))
            clear HPD HP5
            refine takeWE (i := 0) (d := (some 103)) (v := ?_) rfl rfl (by kernel_rfl) (by kernel_rfl) (by kernel_rfl) (by kernel_rfl) (by kernel_rfl) (fun _ _ _ h => h) (by rfl) ?_ (by assumption) ?_
            rotate_left
            · intro w' hSw; (try dsimp only at hSw); go_simp; try with_reducible rfl
            try simp only [Act.put, List.setIfInBounds_toArray, List.set_cons_zero, List.set_cons_succ]
            refine takeWE (i := 1) (d := (some 104)) (v := ?_) rfl rfl (by kernel_rfl) (by kernel_rfl) (by kernel_rfl) (by kernel_rfl) (by kernel_rfl) (fun _ _ _ h => h) (by rfl) ?_ (by assumption) ?_
            rotate_left
            · intro w' hSw; (try dsimp only at hSw); go_simp; try with_reducible rfl
            try simp only [Act.put, List.setIfInBounds_toArray, List.set_cons_zero, List.set_cons_succ]
            refine takeWE (i := 3) (d := (some 106)) (v := ?_) rfl rfl (by kernel_rfl) (by kernel_rfl) (by kernel_rfl) (by kernel_rfl) (by kernel_rfl) (fun _ _ _ h => h) (by rfl) ?_ (by assumption) ?_
            rotate_left
            · intro w' hSw; (try dsimp only at hSw); go_simp; try with_reducible rfl
            try simp only [Act.put, List.setIfInBounds_toArray, List.set_cons_zero, List.set_cons_succ]
            refine takeWE (i := 4) (d := (some 107)) (v := ?_) rfl rfl (by kernel_rfl) (by kernel_rfl) (by kernel_rfl) (by kernel_rfl) (by kernel_rfl) (fun _ _ _ h => h) (by rfl) ?_ (by assumption) ?_
            rotate_left
            · intro w' hSw; (try dsimp only at hSw); go_simp; try with_reducible rfl
            try simp only [Act.put, List.setIfInBounds_toArray, List.set_cons_zero, List.set_cons_succ]
            refine takeWE (i := 5) (d := (some 108)) (v := ?_) rfl rfl (by kernel_rfl) (by kernel_rfl) (by kernel_rfl) (by kernel_rfl) (by kernel_rfl) (fun _ _ _ h => h) (by rfl) ?_ (by assumption) ?_
            rotate_left
            · intro w' hSw; (try dsimp only at hSw); go_simp; try with_reducible rfl
            try simp only [Act.put, List.setIfInBounds_toArray, List.set_cons_zero, List.set_cons_succ]
            refine wpE_ready (rs := [2]) (by kernel_rfl) (by simp) ?_
            refine AllE.cons rfl (fun K hK => ?_) (AllE.nil)
            go_simp
            go_at_call 15
            (with_reducible refine (HPd.out.code (fun rs H => putC_all H hal9 HG.out.rise m q o A5 c5 g t d HW0.out (by omega) HN5.out)).mono ?_)
            rintro e w6 ⟨rfl, h6⟩
            have HP6 := Lib.hid h6
            clear h6
            go_wp2_with (fail)
            refine hK.out _ _ ?_ (fun hHeld => ?_)
            · exact ⟨At.cell (HP6.out.get 2 rfl) 1, At.cell (HP6.out.get 2 rfl) 2, At.cell (HP6.out.get 2 rfl) 3, At.cell (HP6.out.get 2 rfl) 4, At.cell (HP6.out.get 2 rfl) 5, At.cell (HP6.out.get 2 rfl) 6, At.cell (HP6.out.get 2 rfl) 2, At.cell (HP6.out.get 2 rfl) 3, At.cell (HP6.out.get 2 rfl) 4, At.cell (HP6.out.get 2 rfl) 5, At.cell (HP6.out.get 2 rfl) 6, At.cell (HP6.out.get 0 rfl) 0, At.cell (HP6.out.get 0 rfl) 1, At.cell (HP6.out.get 0 rfl) 2, At.cell (HP6.out.get 0 rfl) 3, At.cell (HP6.out.get 0 rfl) 4, At.cell (HP6.out.get 0 rfl) 5⟩
            clear hK K
            try simp only [Act.put, List.setIfInBounds_toArray, List.set_cons_zero, List.set_cons_succ]
            refine wpE_ready (rs := [6]) (by kernel_rfl) (by simp) ?_
            refine AllE.cons rfl (fun K hK => ?_) (AllE.nil)
            go_simp
            go_at_call 16
            (with_reducible refine (HP6.out.refc (fun rs H => putR_all H hal9 HG.out.rise m q o A' p g t d (HD.out.keep0 HP6.out.chg) (by omega))).mono ?_)
            rintro e w7 ⟨rfl, h7⟩
            have HP7 := Lib.hid h7
            clear h7
            obtain ⟨pe, HPE⟩ : ∃ pe, Hid (putE acc ⟨m, q, o, d, g, t⟩ = pe) := ⟨_, Lib.hid rfl⟩
            rw [HPE.out]
            go_wp2_with (fail)
            refine hK.out _ _ ?_ (fun hHeld => ?_)
            · exact ⟨At.cell (HP7.out.get 2 rfl) 1, At.cell (HP7.out.get 2 rfl) 2, At.cell (HP7.out.get 2 rfl) 3, At.cell (HP7.out.get 2 rfl) 4, At.cell (HP7.out.get 2 rfl) 5, At.cell (HP7.out.get 2 rfl) 6, At.cell (HP7.out.get 2 rfl) 2, At.cell (HP7.out.get 2 rfl) 3, At.cell (HP7.out.get 2 rfl) 4, At.cell (HP7.out.get 2 rfl) 5, At.cell (HP7.out.get 2 rfl) 6, At.cell (HP7.out.get 0 rfl) 0, At.cell (HP7.out.get 0 rfl) 1, At.cell (HP7.out.get 0 rfl) 2, At.cell (HP7.out.get 0 rfl) 3, At.cell (HP7.out.get 0 rfl) 4, At.cell (HP7.out.get 0 rfl) 5⟩
            clear hK K
            try simp only [Act.put, List.setIfInBounds_toArray, List.set_cons_zero, List.set_cons_succ]
            refine takeWE (i := 7) (d := (some 110)) (v := ?_) rfl rfl (by kernel_rfl) (by kernel_rfl) (by kernel_rfl) (by kernel_rfl) (by kernel_rfl) (fun _ _ _ h => h) (by rfl) ?_ (by assumption) ?_
            rotate_left
            · intro w' hSw; (try dsimp only at hSw); go_simp; try with_reducible rfl
            try simp only [Act.put, List.setIfInBounds_toArray, List.set_cons_zero, List.set_cons_succ]
            refine takeWE (i := 8) (d := (some 111)) (v := ?_) rfl rfl (by kernel_rfl) (by kernel_rfl) (by kernel_rfl) (by kernel_rfl) (by kernel_rfl) (fun _ _ _ h => h) (by rfl) ?_ (by assumption) ?_
            rotate_left
            · intro w' hSw; (try dsimp only at hSw); go_simp; try with_reducible rfl
            try simp only [Act.put, List.setIfInBounds_toArray, List.set_cons_zero, List.set_cons_succ]
            refine takeWE (i := 9) (d := (some 112)) (v := ?_) rfl rfl (by kernel_rfl) (by kernel_rfl) (by kernel_rfl) (by kernel_rfl) (by kernel_rfl) (fun _ _ _ h => h) (by rfl) ?_ (by assumption) ?_
            rotate_left
            · intro w' hSw; (try dsimp only at hSw); go_simp; try with_reducible rfl
            try simp only [Act.put, List.setIfInBounds_toArray, List.set_cons_zero, List.set_cons_succ]
            refine takeWE (i := 10) (d := (some 113)) (v := ?_) rfl rfl (by kernel_rfl) (by kernel_rfl) (by kernel_rfl) (by kernel_rfl) (by kernel_rfl) (fun _ _ _ h => h) (by rfl) ?_ (by assumption) ?_
            rotate_left
            · intro w' hSw; (try dsimp only at hSw); go_simp; try with_reducible rfl
            try simp only [Act.put, List.setIfInBounds_toArray, List.set_cons_zero, List.set_cons_succ]
            refine takeWE (i := 11) (d := (some 114)) (v := ?_) rfl rfl (by kernel_rfl) (by kernel_rfl) (by kernel_rfl) (by kernel_rfl) (by kernel_rfl) (fun _ _ _ h => h) (by rfl) ?_ (by assumption) ?_
            rotate_left
            · intro w' hSw; (try dsimp only at hSw); go_simp; try with_reducible rfl
            try simp only [Act.put, List.setIfInBounds_toArray, List.set_cons_zero, List.set_cons_succ]
            refine takeWE (i := 12) (d := (some 115)) (v := ?_) rfl rfl (by kernel_rfl) (by kernel_rfl) (by kernel_rfl) (by kernel_rfl) (by kernel_rfl) (fun _ _ _ h => h) (by rfl) ?_ (by assumption) ?_
            rotate_left
            · intro w' hSw; (try dsimp only at hSw); go_simp; try with_reducible rfl
            try simp only [Act.put, List.setIfInBounds_toArray, List.set_cons_zero, List.set_cons_succ]
            refine takeWE (i := 13) (d := (some 116)) (v := ?_) rfl rfl (by kernel_rfl) (by kernel_rfl) (by kernel_rfl) (by kernel_rfl) (by kernel_rfl) (fun _ _ _ h => h) (by rfl) ?_ (by assumption) ?_
            rotate_left
            · intro w' hSw; (try dsimp only at hSw); go_simp; try with_reducible rfl
            try simp only [Act.put, List.setIfInBounds_toArray, List.set_cons_zero, List.set_cons_succ]
            refine wpE_ready (rs := [14]) (by kernel_rfl) (by simp) ?_
            refine AllE.cons rfl (fun K hK => ?_) (AllE.nil)
            go_simp
            go_at_call 17
            (with_reducible refine (same_any _ A5 A' d.length d.length c5 p d d rfl rfl (Rd.of_own (own_pre (HP7.out.get 1 rfl))) (HD.out.keep0 HP7.out.chg) (by omega)).mono ?_)
            simp only [eq_self, decide_true]
            rintro e w8 ⟨rfl, h8⟩
            have HP8 := Lib.hid (HP7.out.quiet h8)
            clear h8
            go_wp2_with (fail)
            refine hK.out _ _ ?_ (fun hHeld => ?_)
            · exact ⟨At.cell (HP8.out.get 2 rfl) 1, At.cell (HP8.out.get 2 rfl) 2, At.cell (HP8.out.get 2 rfl) 3, At.cell (HP8.out.get 2 rfl) 4, At.cell (HP8.out.get 2 rfl) 5, At.cell (HP8.out.get 2 rfl) 6, At.cell (HP8.out.get 2 rfl) 2, At.cell (HP8.out.get 2 rfl) 3, At.cell (HP8.out.get 2 rfl) 4, At.cell (HP8.out.get 2 rfl) 5, At.cell (HP8.out.get 2 rfl) 6, At.cell (HP8.out.get 0 rfl) 0, At.cell (HP8.out.get 0 rfl) 1, At.cell (HP8.out.get 0 rfl) 2, At.cell (HP8.out.get 0 rfl) 3, At.cell (HP8.out.get 0 rfl) 4, At.cell (HP8.out.get 0 rfl) 5⟩
            clear hK K
            try simp only [Act.put, List.setIfInBounds_toArray, List.set_cons_zero, List.set_cons_succ]
            refine takeWE (i := 15) (d := (some 118)) (v := ?_) rfl rfl (by kernel_rfl) (by kernel_rfl) (by kernel_rfl) (by kernel_rfl) (by kernel_rfl) (fun _ _ _ h => h) (by rfl) ?_ (by assumption) ?_
            rotate_left
            · intro w' hSw; (try dsimp only at hSw); go_simp; try with_reducible rfl
            try simp only [Act.put, List.setIfInBounds_toArray, List.set_cons_zero, List.set_cons_succ]
            refine takeWE (i := 16) (d := (some 119)) (v := ?_) rfl rfl (by kernel_rfl) (by kernel_rfl) (by kernel_rfl) (by kernel_rfl) (by kernel_rfl) (fun _ _ _ h => h) (by rfl) ?_ (by assumption) ?_
            rotate_left
            · intro w' hSw; (try dsimp only at hSw); go_simp; try with_reducible rfl
            try simp only [Act.put, List.setIfInBounds_toArray, List.set_cons_zero, List.set_cons_succ]
            refine takeWE (i := 17) (d := (some 120)) (v := ?_) rfl rfl (by kernel_rfl) (by kernel_rfl) (by kernel_rfl) (by kernel_rfl) (by kernel_rfl) (fun _ _ _ h => h) (by rfl) ?_ (by assumption) ?_
            rotate_left
            · intro w' hSw; (try dsimp only at hSw); go_simp; try with_reducible rfl
            try simp only [Act.put, List.setIfInBounds_toArray, List.set_cons_zero, List.set_cons_succ]
            refine takeWE (i := 18) (d := (some 121)) (v := ?_) rfl rfl (by kernel_rfl) (by kernel_rfl) (by kernel_rfl) (by kernel_rfl) (by kernel_rfl) (fun _ _ _ h => h) (by rfl) ?_ (by assumption) ?_
            rotate_left
            · intro w' hSw; (try dsimp only at hSw); go_simp; try with_reducible rfl
            try simp only [Act.put, List.setIfInBounds_toArray, List.set_cons_zero, List.set_cons_succ]
            refine takeWE (i := 19) (d := (some 122)) (v := ?_) rfl rfl (by kernel_rfl) (by kernel_rfl) (by kernel_rfl) (by kernel_rfl) (by kernel_rfl) (fun _ _ _ h => h) (by rfl) ?_ (by assumption) ?_
            rotate_left
            · intro w' hSw; (try dsimp only at hSw); go_simp; try with_reducible rfl
            try simp only [Act.put, List.setIfInBounds_toArray, List.set_cons_zero, List.set_cons_succ]
            refine takeWE (i := 21) (d := (some 124)) (v := ?_) rfl rfl (by kernel_rfl) (by kernel_rfl) (by kernel_rfl) (by kernel_rfl) (by kernel_rfl) (fun _ _ _ h => h) (by rfl) ?_ (by assumption) ?_
            rotate_left
            · intro w' hSw; (try dsimp only at hSw); go_simp; try with_reducible rfl
            try simp only [Act.put, List.setIfInBounds_toArray, List.set_cons_zero, List.set_cons_succ]
            refine takeWE (i := 22) (d := (some 125)) (v := ?_) rfl rfl (by kernel_rfl) (by kernel_rfl) (by kernel_rfl) (by kernel_rfl) (by kernel_rfl) (fun _ _ _ h => h) (by rfl) ?_ (by assumption) ?_
            rotate_left
            · intro w' hSw; (try dsimp only at hSw); go_simp; try with_reducible rfl
            try simp only [Act.put, List.setIfInBounds_toArray, List.set_cons_zero, List.set_cons_succ]
            refine wpE_ready (rs := [20]) (by kernel_rfl) (by simp) ?_
            refine AllE.cons rfl (fun K hK => ?_) (AllE.nil)
            go_simp
            go_at_call 18
            (with_reducible refine (chIs_any _ m q o A' d p g t).mono ?_)
            rw [HIS.out]
            rintro e w9 ⟨rfl, h9⟩
            have HP9 := Lib.hid (HP8.out.quiet h9)
            clear h9
            go_wp2_with (fail)
            refine hK.out _ _ ?_ (fun hHeld => ?_)
            · exact ⟨At.cell (HP9.out.get 2 rfl) 1, At.cell (HP9.out.get 2 rfl) 2, At.cell (HP9.out.get 2 rfl) 3, At.cell (HP9.out.get 2 rfl) 4, At.cell (HP9.out.get 2 rfl) 5, At.cell (HP9.out.get 2 rfl) 6, At.cell (HP9.out.get 2 rfl) 2, At.cell (HP9.out.get 2 rfl) 3, At.cell (HP9.out.get 2 rfl) 4, At.cell (HP9.out.get 2 rfl) 5, At.cell (HP9.out.get 2 rfl) 6, At.cell (HP9.out.get 0 rfl) 0, At.cell (HP9.out.get 0 rfl) 1, At.cell (HP9.out.get 0 rfl) 2, At.cell (HP9.out.get 0 rfl) 3, At.cell (HP9.out.get 0 rfl) 4, At.cell (HP9.out.get 0 rfl) 5⟩
            clear hK K
            try simp only [Act.put, List.setIfInBounds_toArray, List.set_cons_zero, List.set_cons_succ]
            refine wpE_ready (rs := [23]) (by kernel_rfl) (by simp) ?_
            refine AllE.cons rfl (fun K hK => ?_) (AllE.nil)
            go_simp
            go_at_call 19
            (with_reducible refine (refVersion_any _ m q o A' d p g t).mono ?_)
            rw [HIS.out]
            rintro e wa ⟨rfl, ha⟩
            have HPa := Lib.hid (HP9.out.quiet ha)
            clear ha
            go_wp2_with (fail)
            refine hK.out _ _ ?_ (fun hHeld => ?_)
            · exact ⟨At.cell (HPa.out.get 2 rfl) 1, At.cell (HPa.out.get 2 rfl) 2, At.cell (HPa.out.get 2 rfl) 3, At.cell (HPa.out.get 2 rfl) 4, At.cell (HPa.out.get 2 rfl) 5, At.cell (HPa.out.get 2 rfl) 6, At.cell (HPa.out.get 2 rfl) 2, At.cell (HPa.out.get 2 rfl) 3, At.cell (HPa.out.get 2 rfl) 4, At.cell (HPa.out.get 2 rfl) 5, At.cell (HPa.out.get 2 rfl) 6, At.cell (HPa.out.get 0 rfl) 0, At.cell (HPa.out.get 0 rfl) 1, At.cell (HPa.out.get 0 rfl) 2, At.cell (HPa.out.get 0 rfl) 3, At.cell (HPa.out.get 0 rfl) 4, At.cell (HPa.out.get 0 rfl) 5⟩
            clear hK K
            try simp only [Act.put, List.setIfInBounds_toArray, List.set_cons_zero, List.set_cons_succ]
            refine takeWE (i := 24) (d := (some 127)) (v := ?_) rfl rfl (by kernel_rfl) (by kernel_rfl) (by kernel_rfl) (by kernel_rfl) (by kernel_rfl) (fun _ _ _ h => h) (by rfl) ?_ (by assumption) ?_
            rotate_left
            · intro w' hSw; (try dsimp only at hSw); go_simp; try with_reducible rfl
            try simp only [Act.put, List.setIfInBounds_toArray, List.set_cons_zero, List.set_cons_succ]
            refine wpE_ready (rs := [25]) (by kernel_rfl) (by simp) ?_
            refine AllE.last rfl (by kernel_rfl) (fun K hK => ?_)
            go_simp
            go_wp2_with (fail)
            refine hK.out _ _ ?_
            clear hK K hHeld
            have hbb : (bi != bi) = false := by cases bi <;> rfl
            have hpp : (pe != pe) = false := by simp
            have HOS := Lib.hid (own_pre (HPa.out.get 1 rfl))
            have v0 := At.cell (HPa.out.get 0 rfl) 0
            have v1 := At.cell (HPa.out.get 0 rfl) 1
            have v2 := At.cell (HPa.out.get 0 rfl) 2
            have v3 := At.cell (HPa.out.get 0 rfl) 3
            have v4 := At.cell (HPa.out.get 0 rfl) 4
            have v5 := At.cell (HPa.out.get 0 rfl) 5
            simp only [List.getElem?_toArray, List.getElem?_cons_zero, List.getElem?_cons_succ] at v0 v1 v2 v3 v4 v5
            go_wp2_with (fail)
            (with_reducible refine (spoil_any wa 0 A5 d.length c5 (cB d) HOS.out (by omega) (Nat.zero_le _)).mono ?_)
            rintro e wb ⟨rfl, hb⟩
            have HPb := Lib.hid ((HPa.out.swap.ruin (show Chg (rRow 0 5 A5 (d.length + 1) c5 (cB (d ++ [171]))).F wa wb from hb)).tail.tail)
            clear v0 v1 v2 v3 v4 v5
            clear hb HPa HOS
            go_wp2_with (fail)
            go_meet
            refine ⟨putL acc ⟨m, q, o, d, g, t⟩, Lib.hid ⟨HG.out.put _, ?_⟩, ?_⟩
            · have := putL_len acc ⟨m, q, o, d, g, t⟩; omega
            · exact HPb
          have hkd1 := hkd
          clear hkd
          by_cases hkd : kd = 2
          · skip
            have hk1 : (kd == 1) = false := beq_eq_false_iff_ne.2 hkd1
            have hk2 : (kd == 2) = true := by rw [beq_iff_eq]; exact hkd
            clear hkd hkd1
            obtain ⟨vz, HVZ⟩ : ∃ v, Hid (atX acc ⟨sm, sc⟩ = v) := ⟨_, Lib.hid rfl⟩
            obtain ⟨ab, HAB⟩ : ∃ v, Hid (atB acc ⟨sm, sc⟩ = v) := ⟨_, Lib.hid rfl⟩
            obtain ⟨gd, HGD⟩ : ∃ v, Hid (getD acc ⟨sm, sc⟩ = v) := ⟨_, Lib.hid rfl⟩
            obtain ⟨gb, HGB⟩ : ∃ v, Hid (getB acc ⟨sm, sc⟩ = v) := ⟨_, Lib.hid rfl⟩
            have hgl : gd.length ≤ 1099511627776 := by rw [← HGD.out]; exact getD_len HG.out.valid _
            obtain ⟨zm, zq, zo, zd, zg, zt⟩ := vz
            have s0 := At.cell (HB12.out) 0
            have s1 := At.cell (HB12.out) 1
            have s2 := At.cell (HB12.out) 2
            have s3 := At.cell (HB12.out) 3
            have s4 := At.cell (HB12.out) 4
            have s5 := At.cell (HB12.out) 5
            have s6 := At.cell (HB12.out) 6
            have s7 := At.cell (HB12.out) 7
            have s8 := At.cell (HB12.out) 8
            simp only [List.getElem?_toArray, List.getElem?_cons_zero, List.getElem?_cons_succ] at s0 s1 s2 s3 s4 s5 s6 s7 s8
            obtain ⟨_, _, _, _, HCA⟩ := HP12.out.c_
            have HAC := Lib.hid (atC_all HCA hal9 HG.out.valid sm sc)
            rw [HVZ.out, HAB.out] at HAC
            clear HCA
            go_wp2_with (fail)
            refine HAC.out.mono ?_
            rintro e w6 ⟨A6, c6, rfl, ho6, hc6⟩
            simp only [VV.cells] at ho6 ⊢
            have hq6 := hc6.alloc (.cells #[.int .i64 zm, .int .i64 zq, .int .i64 zo, .slice A6 zd.length c6, .bool zg, .int .i64 zt] 28)
            have HP6 := Lib.hid (HP12.out.quiet hq6)
            have HO6 := Lib.hid ((Rd.of_own ho6).alloc (.cells #[.int .i64 zm, .int .i64 zq, .int .i64 zo, .slice A6 zd.length c6, .bool zg, .int .i64 zt] 28))
            have HZ6 := Lib.hid (At.new w6 28 #[.int .i64 zm, .int .i64 zq, .int .i64 zo, .slice A6 zd.length c6, .bool zg, .int .i64 zt])
            clear s0 s1 s2 s3 s4 s5 s6 s7 s8
            have s0 := At.cell (HB12.out.keep hq6 (by simp)) 0
            have s1 := At.cell (HB12.out.keep hq6 (by simp)) 1
            have s2 := At.cell (HB12.out.keep hq6 (by simp)) 2
            have s3 := At.cell (HB12.out.keep hq6 (by simp)) 3
            have s4 := At.cell (HB12.out.keep hq6 (by simp)) 4
            have s5 := At.cell (HB12.out.keep hq6 (by simp)) 5
            have s6 := At.cell (HB12.out.keep hq6 (by simp)) 6
            have s7 := At.cell (HB12.out.keep hq6 (by simp)) 7
            have s8 := At.cell (HB12.out.keep hq6 (by simp)) 8
            simp only [List.getElem?_toArray, List.getElem?_cons_zero, List.getElem?_cons_succ] at s0 s1 s2 s3 s4 s5 s6 s7 s8
            obtain ⟨_, _, _, _, HRA⟩ := HP6.out.r_
            have HAR := Lib.hid (atR_all HRA hal9 HG.out sm sc)
            rw [HVZ.out, HAB.out] at HAR
            clear HRA HAC ho6 hc6 hq6 HP12 HB12
            go_wp2_with (fail)
            generalize w6.alloc (.cells #[.int .i64 zm, .int .i64 zq, .int .i64 zo, .slice A6 zd.length c6, .bool zg, .int .i64 zt] 28) = wx6 at *
            generalize w6.heap.size = g14 at *
            refine HAR.out.mono ?_
            rintro e w7 ⟨A7, c7, rfl, ho7, hc7⟩
            simp only [VV.cells] at ho7 ⊢
            have hq7 := hc7.alloc (.cells #[.int .i64 zm, .int .i64 zq, .int .i64 zo, .slice A7 zd.length c7, .bool zg, .int .i64 zt] 28)
            have HP7 := Lib.hid (HP6.out.quiet hq7)
            have HO7 := Lib.hid (ho7.alloc (.cells #[.int .i64 zm, .int .i64 zq, .int .i64 zo, .slice A7 zd.length c7, .bool zg, .int .i64 zt] 28))
            have HO67 := Lib.hid (HO6.out.keep0 hq7)
            have HZ67 := Lib.hid (HZ6.out.keep hq7 (by simp))
            have HZ7 := Lib.hid (At.new w7 28 #[.int .i64 zm, .int .i64 zq, .int .i64 zo, .slice A7 zd.length c7, .bool zg, .int .i64 zt])
            clear s0 s1 s2 s3 s4 s5 s6 s7 s8
            have s0 := At.cell (HP7.out.get 0 rfl) 0
            have s1 := At.cell (HP7.out.get 0 rfl) 1
            have s2 := At.cell (HP7.out.get 0 rfl) 2
            have s3 := At.cell (HP7.out.get 0 rfl) 3
            have s4 := At.cell (HP7.out.get 0 rfl) 4
            have s5 := At.cell (HP7.out.get 0 rfl) 5
            have s6 := At.cell (HP7.out.get 0 rfl) 6
            have s7 := At.cell (HP7.out.get 0 rfl) 7
            have s8 := At.cell (HP7.out.get 0 rfl) 8
            simp only [List.getElem?_toArray, List.getElem?_cons_zero, List.getElem?_cons_succ] at s0 s1 s2 s3 s4 s5 s6 s7 s8
            obtain ⟨_, _, _, _, HCA⟩ := HP7.out.c_
            have HAC := Lib.hid (getC_all HCA hal9 HG.out.valid sm sc hsm)
            rw [HGD.out, HGB.out] at HAC
            clear HCA HAR ho7 hc7 hq7 HP6 HO6 HZ6
            go_wp2_with (fail)
            generalize w7.alloc (.cells #[.int .i64 zm, .int .i64 zq, .int .i64 zo, .slice A7 zd.length c7, .bool zg, .int .i64 zt] 28) = wx7 at *
            generalize w7.heap.size = g16 at *
            refine HAC.out.mono ?_
            rintro e w8 ⟨A8, c8, rfl, ho8, hc8⟩
            have HP8 := Lib.hid (HP7.out.row hc8 ho8)
            have HO8 := Lib.hid (HO67.out.keep0 hc8)
            have HO78 := Lib.hid (HO7.out.keep0 hc8)
            have HZ8 := Lib.hid (HZ67.out.keep hc8 (by simp))
            have HZ78 := Lib.hid (HZ7.out.keep hc8 (by simp))
            clear s0 s1 s2 s3 s4 s5 s6 s7 s8
            have s0 := At.cell (HP8.out.get 1 rfl) 0
            have s1 := At.cell (HP8.out.get 1 rfl) 1
            have s2 := At.cell (HP8.out.get 1 rfl) 2
            have s3 := At.cell (HP8.out.get 1 rfl) 3
            have s4 := At.cell (HP8.out.get 1 rfl) 4
            have s5 := At.cell (HP8.out.get 1 rfl) 5
            have s6 := At.cell (HP8.out.get 1 rfl) 6
            have s7 := At.cell (HP8.out.get 1 rfl) 7
            have s8 := At.cell (HP8.out.get 1 rfl) 8
            simp only [List.getElem?_toArray, List.getElem?_cons_zero, List.getElem?_cons_succ] at s0 s1 s2 s3 s4 s5 s6 s7 s8
            obtain ⟨_, _, _, _, HRA⟩ := HP8.out.r_
            have HAR := Lib.hid (getR_all HRA hal9 HG.out sm sc hsm)
            rw [HGD.out, HGB.out] at HAR
            clear HRA HAC ho8 hc8 HP7 HO67 HO7 HZ67 HZ7
            go_wp2_with (fail)
            refine HAR.out.mono ?_
            rintro e w9 ⟨A9, c9, rfl, hr9, hc9⟩
            have HP9 := Lib.hid (HP8.out.quiet hc9)
            have HO9 := Lib.hid (HO8.out.keep0 hc9)
            have HO79 := Lib.hid (HO78.out.keep0 hc9)
            have HR9 := Lib.hid hr9
            clear s0 s1 s2 s3 s4 s5 s6 s7 s8
            have u0 := At.cell (HZ8.out.keep hc9 (by simp)) 0
            have u1 := At.cell (HZ8.out.keep hc9 (by simp)) 1
            have u2 := At.cell (HZ8.out.keep hc9 (by simp)) 2
            have u3 := At.cell (HZ8.out.keep hc9 (by simp)) 3
            have u4 := At.cell (HZ8.out.keep hc9 (by simp)) 4
            have u5 := At.cell (HZ8.out.keep hc9 (by simp)) 5
            simp only [List.getElem?_toArray, List.getElem?_cons_zero, List.getElem?_cons_succ] at u0 u1 u2 u3 u4 u5
            have v0 := At.cell (HZ78.out.keep hc9 (by simp)) 0
            have v1 := At.cell (HZ78.out.keep hc9 (by simp)) 1
            have v2 := At.cell (HZ78.out.keep hc9 (by simp)) 2
            have v3 := At.cell (HZ78.out.keep hc9 (by simp)) 3
            have v4 := At.cell (HZ78.out.keep hc9 (by simp)) 4
            have v5 := At.cell (HZ78.out.keep hc9 (by simp)) 5
            simp only [List.getElem?_toArray, List.getElem?_cons_zero, List.getElem?_cons_succ] at v0 v1 v2 v3 v4 v5
            clear HP8 HO8 HO78 HZ8 HZ78 HAR hr9 hc9
            have HSV := Lib.hid (refSameV_any w9 zm zq zo A6 zd c6 zg zt zm zq zo A7 zd c7 zg zt HO9.out HO79.out)
            rw [sameVB_refl ⟨zm, zq, zo, zd, zg, zt⟩] at HSV
            have hab : (ab != ab) = false := by cases ab <;> rfl
            have hgb : (gb != gb) = false := by cases gb <;> rfl
            go_wp2_with (fail)
            refine HSV.out.mono ?_
            rintro e wa ⟨rfl, ha⟩
            have HPa := Lib.hid (HP9.out.quiet ha)
            have HRa := Lib.hid (HR9.out.keep0 ha)
            clear u0 u1 u2 u3 u4 u5
            clear v0 v1 v2 v3 v4 v5
            clear HP9 HO9 HO79 HR9 HSV ha
            have HSM := Lib.hid (same_any wa A8 A9 gd.length gd.length c8 c9 gd gd rfl rfl (Rd.of_own (HPa.out.get 0 rfl)) HRa.out (by omega))
            have hdd : decide (gd = gd) = true := decide_eq_true rfl
            rw [hdd] at HSM
            clear hdd
            go_wp2_with (fail)
            refine HSM.out.mono ?_
            rintro e wb ⟨rfl, hb⟩
            have HPb := Lib.hid (HPa.out.quiet hb)
            clear HPa HRa HSM hb
            go_wp2_with (fail)
            (with_reducible refine (spoil_any wb 0 A8 gd.length c8 (cB gd) (HPb.out.get 0 rfl) hgl (Nat.zero_le _)).mono ?_)
            rintro e wf ⟨rfl, hf⟩
            have HPf := Lib.hid ((HPb.out.ruin (show Chg (rRow 0 5 A8 gd.length c8 (cB gd)).F wb wf from hf)).tail)
            clear HPb hf
            go_wp2_with (fail)
            go_meet
            exact ⟨acc, Lib.hid ⟨HG.out, Nat.le_succ_of_le hacc⟩, HPf⟩
          have hkd2 := hkd
          clear hkd
          by_cases hkd : kd = 3
          · skip
            have hk1 : (kd == 1) = false := beq_eq_false_iff_ne.2 hkd1
            have hk2 : (kd == 2) = false := beq_eq_false_iff_ne.2 hkd2
            have hk3 : (kd == 3) = true := by rw [beq_iff_eq]; exact hkd
            clear hkd hkd1 hkd2
            have s0 := At.cell (HB12.out) 0
            have s1 := At.cell (HB12.out) 1
            have s2 := At.cell (HB12.out) 2
            have s3 := At.cell (HB12.out) 3
            have s4 := At.cell (HB12.out) 4
            have s5 := At.cell (HB12.out) 5
            have s6 := At.cell (HB12.out) 6
            have s7 := At.cell (HB12.out) 7
            have s8 := At.cell (HB12.out) 8
            simp only [List.getElem?_toArray, List.getElem?_cons_zero, List.getElem?_cons_succ] at s0 s1 s2 s3 s4 s5 s6 s7 s8
            go_upto_region 36 with (fail)
            clear s0 s1 s2 s3 s4 s5 s6 s7 s8
            have HPD := Lib.hid (HP12.out.quiet ((Chg.refl [] wx).drew))
            refine wp_regionE 8 (fun w' => w'.cell? ⟨g12, 7, none⟩ = some (.int .i64 sm) ∧ w'.cell? ⟨g12, 8, none⟩ = some (.int .i64 sc) ∧ w'.cell? ⟨g12, 7 + 1, none⟩ = some (.int .i64 sc)) (by kernel_rfl) ?_ (fun hHeld => ?_)
            · exact ⟨At.cell (HPD.out.get 0 rfl) 7, At.cell (HPD.out.get 0 rfl) 8, At.cell (HPD.out.get 0 rfl) 8⟩
            have HDR : Hid (Chg [] wx wx.drew) := (Chg.refl [] wx).drew
            generalize wx.drew = wd at *
            have HPd := Lib.hid (HP12.out.quiet HDR.out)
            clear HPD HP12
            refine takeWE (i := 0) (d := (some 186)) (v := ?_) rfl rfl (by kernel_rfl) (by kernel_rfl) (by kernel_rfl) (by kernel_rfl) (by kernel_rfl) (fun _ _ _ h => h) (by rfl) ?_ (by assumption) ?_
            rotate_left
            · intro w' hSw; (try dsimp only at hSw); go_simp; try with_reducible rfl
            try simp only [Act.put, List.setIfInBounds_toArray, List.set_cons_zero, List.set_cons_succ]
            refine takeWE (i := 1) (d := (some 187)) (v := ?_) rfl rfl (by kernel_rfl) (by kernel_rfl) (by kernel_rfl) (by kernel_rfl) (by kernel_rfl) (fun _ _ _ h => h) (by rfl) ?_ (by assumption) ?_
            rotate_left
            · intro w' hSw; (try dsimp only at hSw); go_simp; try with_reducible rfl
            try simp only [Act.put, List.setIfInBounds_toArray, List.set_cons_zero, List.set_cons_succ]
            refine takeWE (i := 2) (d := (some 188)) (v := ?_) rfl rfl (by kernel_rfl) (by kernel_rfl) (by kernel_rfl) (by kernel_rfl) (by kernel_rfl) (fun _ _ _ h => h) (by rfl) ?_ (by assumption) ?_
            rotate_left
            · intro w' hSw; (try dsimp only at hSw); go_simp; try with_reducible rfl
            try simp only [Act.put, List.setIfInBounds_toArray, List.set_cons_zero, List.set_cons_succ]
            refine takeWE (i := 4) (d := (some 190)) (v := ?_) rfl rfl (by kernel_rfl) (by kernel_rfl) (by kernel_rfl) (by kernel_rfl) (by kernel_rfl) (fun _ _ _ h => h) (by rfl) ?_ (by assumption) ?_
            rotate_left
            · intro w' hSw; (try dsimp only at hSw); go_simp; try with_reducible rfl
            try simp only [Act.put, List.setIfInBounds_toArray, List.set_cons_zero, List.set_cons_succ]
            refine takeWE (i := 5) (d := (some 191)) (v := ?_) rfl rfl (by kernel_rfl) (by kernel_rfl) (by kernel_rfl) (by kernel_rfl) (by kernel_rfl) (fun _ _ _ h => h) (by rfl) ?_ (by assumption) ?_
            rotate_left
            · intro w' hSw; (try dsimp only at hSw); go_simp; try with_reducible rfl
            try simp only [Act.put, List.setIfInBounds_toArray, List.set_cons_zero, List.set_cons_succ]
            refine takeWE (i := 6) (d := (some 192)) (v := ?_) rfl rfl (by kernel_rfl) (by kernel_rfl) (by kernel_rfl) (by kernel_rfl) (by kernel_rfl) (fun _ _ _ h => h) (by rfl) ?_ (by assumption) ?_
            rotate_left
            · intro w' hSw; (try dsimp only at hSw); go_simp; try with_reducible rfl
            try simp only [Act.put, List.setIfInBounds_toArray, List.set_cons_zero, List.set_cons_succ]
            refine wpE_ready (rs := [3]) (by kernel_rfl) (by simp) ?_
            refine AllE.cons rfl (fun K hK => ?_) (AllE.nil)
            go_simp
            go_at_call 26
            (with_reducible refine (HPd.out.code (fun rs H => trimC_all H hal9 HG.out.valid sm sc hsm)).mono ?_)
            rintro e w6 ⟨rfl, h6⟩
            have HP6 := Lib.hid h6
            clear h6
            go_wp2_with (fail)
            refine hK.out _ _ ?_ (fun hHeld => ?_)
            · exact ⟨At.cell (HP6.out.get 0 rfl) 7, At.cell (HP6.out.get 0 rfl) 8, At.cell (HP6.out.get 0 rfl) 8⟩
            clear hK K
            try simp only [Act.put, List.setIfInBounds_toArray, List.set_cons_zero, List.set_cons_succ]
            refine wpE_ready (rs := [7]) (by kernel_rfl) (by simp) ?_
            refine AllE.cons rfl (fun K hK => ?_) (AllE.nil)
            go_simp
            go_at_call 27
            (with_reducible refine (HP6.out.refc (fun rs H => trimR_all H hal9 HG.out sm sc hsm)).mono ?_)
            rintro e w7 ⟨rfl, h7⟩
            have HP7 := Lib.hid h7
            clear h7 HP6
            go_wp2_with (fail)
            refine hK.out _ _ ?_ (fun hHeld => ?_)
            · exact ⟨At.cell (HP7.out.get 0 rfl) 7, At.cell (HP7.out.get 0 rfl) 8, At.cell (HP7.out.get 0 rfl) 8⟩
            clear hK K
            try simp only [Act.put, List.setIfInBounds_toArray, List.set_cons_zero, List.set_cons_succ]
            refine wpE_ready (rs := [8]) (by kernel_rfl) (by simp) ?_
            refine AllE.last rfl (by kernel_rfl) (fun K hK => ?_)
            go_simp
            go_wp2_with (fail)
            refine hK.out _ _ ?_
            clear hK K hHeld
            have HGN := Lib.hid (HG.out.drop (trimN acc ⟨sm, sc⟩))
            have hln : (acc.drop (trimN acc ⟨sm, sc⟩)).length ≤ acc.length := by rw [List.length_drop]; omega
            generalize acc.drop (trimN acc ⟨sm, sc⟩) = acc2 at *
            generalize trimN acc ⟨sm, sc⟩ = nn at *
            have hnn : ((nn : Int) != (nn : Int)) = false := by simp
            go_wp2_with (fail)
            go_meet
            exact ⟨acc2, Lib.hid ⟨HGN.out, by omega⟩, Lib.hid HP7.out.tail⟩
          have hkd3 := hkd
          clear hkd
          have hk1 : (kd == 1) = false := beq_eq_false_iff_ne.2 hkd1
          have hk2 : (kd == 2) = false := beq_eq_false_iff_ne.2 hkd2
          have hk3 : (kd == 3) = false := beq_eq_false_iff_ne.2 hkd3
          clear hkd1 hkd2 hkd3
          have s0 := At.cell (HB12.out) 0
          have s1 := At.cell (HB12.out) 1
          have s2 := At.cell (HB12.out) 2
          have s3 := At.cell (HB12.out) 3
          have s4 := At.cell (HB12.out) 4
          have s5 := At.cell (HB12.out) 5
          have s6 := At.cell (HB12.out) 6
          have s7 := At.cell (HB12.out) 7
          have s8 := At.cell (HB12.out) 8
          simp only [List.getElem?_toArray, List.getElem?_cons_zero, List.getElem?_cons_succ] at s0 s1 s2 s3 s4 s5 s6 s7 s8
          go_wp2_with (fail)
          go_meet
          exact ⟨acc, Lib.hid ⟨HG.out, Nat.le_succ_of_le hacc⟩, Lib.hid HP12.out.tail⟩
        case rest =>
          obtain ⟨acc2, HGL, HP2⟩ := hcut
          clear HP HG hacc hal9 c0 c1 c2 c3 c4 c5 c6 c7 c8
          have HG := Lib.hid HGL.out.1
          have hacc := HGL.out.2
          have hal9 : acc2.length ≤ 1000000 := by omega
          clear HGL
          generalize wc = wq at *
          obtain ⟨_, _, _, _, HCA⟩ := HP2.out.c_
          have HAC := Lib.hid (allC_all HCA hal9 HG.out.valid)
          clear HCA
          go_wp2_with (fail)
          refine HAC.out.mono ?_
          rintro e w6 ⟨A6, c6, ms6, rfl, hm6, h6⟩
          have HP6 := Lib.hid (HP2.out.vers h6)
          have HM6 := Lib.hid hm6
          have hl6 : ms6.length ≤ 1000000 := by have := congrArg List.length hm6; rw [List.length_map] at this; omega
          have HDL6 : Hid (∀ j (h : j < ms6.length), (ms6[j]).val.length ≤ 1099511627776) := fun j h => by
            have h2 : (ms6[j]).v ∈ acc2 := by rw [← hm6]; exact List.mem_map_of_mem (List.getElem_mem h)
            have h3 := (isVV_iff.1 (HG.out.valid _ h2)).d
            exact Nat.le_trans h3 (by decide)
          obtain ⟨Ar, cr, msr, hmr, hrr⟩ := HP6.out.rd
          have HV6 := Lib.hid (h6.get 0 rfl)
          have HVE := Lib.hid (versions_eq w6 A6 c6 ms6 Ar cr msr (hm6.trans hmr.symm) (VsP.rd HV6.out) (VsP.rd hrr.toVsP) (VsP.rdat HV6.out) (VsP.rdat hrr.toVsP) hl6)
          have r0 := hrr.at_.cell 0
          simp only [List.getElem?_toArray, List.getElem?_cons_zero] at r0
          clear HP2 hm6 h6 HAC HV6 hmr hrr
          go_wp2_with (fail)
          refine HVE.out.mono ?_
          rintro e w7 ⟨rfl, h7⟩
          have HP7 := Lib.hid (HP6.out.quiet h7)
          clear HP6 HVE h7 r0
          go_wp2_with (fail)
          go_loopw [23] (fun i wr => ∃ n : Nat, n ≤ ms6.length ∧ i = .int .i64 n ∧ Hid (Pl w wr gc gr acc2 acc2 [rVq A6 c6 ms6 n])) (fun i _ => ms6.length - (intOf i).toNat)
          case atStart => exact ⟨0, Nat.zero_le _, rfl, HP7.out⟩
          case round =>
            clear HP7
            obtain ⟨n, hn, rfl, HPn⟩ := hrel
            by_cases hlt6 : n < ms6.length
            · have hni : (n : Int) < (ms6.length : Int) := by omega
              have hn0 : (0 : Int) ≤ (n : Int) := by omega
              have HQ := Lib.hid (HPn.out.get 0 rfl)
              have HOW := Lib.hid ((VsQ.dat HQ.out) n hlt6 (Nat.le_refl _))
              have hdl6 := HDL6.out n hlt6
              have HSP := Lib.hid (fun (w' : World) (hc : Chg (blk (ms6[n]).A) wr w') => HPn.out.spoilt hlt6 hc)
              obtain ⟨bd, hBd, hbd, e0, he⟩ := (Rd.of_own (VsQ.row HQ.out)).getV hlt6
              have e3 := he 3 _ (by omega) rfl
              clear he e0 HQ
              subst hBd
              generalize ms6[n] = z at *
              obtain ⟨zm, zq, zo, B6, zd, zp, zg, zt⟩ := z
              simp only at e3 HOW hdl6 HSP
              go_wp2_with (fail)
              (with_reducible refine (spoil_any wr 0 B6 zd.length zp (cB zd) HOW.out hdl6 (Nat.zero_le _)).mono ?_)
              rintro e w8 ⟨rfl, h8⟩
              have HP8 := Lib.hid (HSP.out _ h8)
              clear HSP HOW h8 e3 HPn
              go_wp2_with (fail)
              go_roundw
              case rel => exact ⟨n + 1, by omega, by go_num, HP8.out⟩
              case measure => simp [intOf]; omega
            · obtain rfl : n = ms6.length := by omega
              have hni : ¬ (ms6.length : Int) < (ms6.length : Int) := by omega
              have HPz := Lib.hid HPn.out.tail
              clear HPn
              go_wp2_with (fail)
              go_roundw
              case rel => exact ⟨k + 1, acc2, by omega, by omega, by go_num, ⟨HG.out, by omega⟩, HPz.out⟩
              case measure => simp [intOf]; omega
      · have hkj : ¬ (k : Int) < 100 := by omega
        obtain ⟨Ar, cr, msr, hmr, hrr⟩ := HP.out.rd
        have HMR := Lib.hid hmr
        have HRR := Lib.hid hrr
        have KK : Hid (∀ w', Chg [] wr w' → w'.cell? ⟨gr, 0, none⟩ = some (.slice Ar msr.length cr)) := fun w' hc => (HRR.out.at_.keep hc (by simp)).cell 0
        clear hmr hrr
        go_upto_region 45 with (fail)
        refine wp_regionE 10 (fun w' => w'.cell? ⟨gr, 0, none⟩ = some (.slice Ar msr.length cr)) (by kernel_rfl) ?_ (fun hHeld => ?_)
        · exact KK.out _ ((Chg.refl [] wr).drew)
        have HDR : Hid (Chg [] wr wr.drew) := (Chg.refl [] wr).drew
        generalize wr.drew = wd at *
        have KD : Hid (∀ w', Chg [] wd w' → w'.cell? ⟨gr, 0, none⟩ = some (.slice Ar msr.length cr)) := fun w' hc => KK.out _ (HDR.out.trans hc (by simp))
        have HRd := Lib.hid (HRR.out.keep HDR.out)
        have HPd := Lib.hid (HP.out.quiet HDR.out)
        have HCW := Lib.hid HPd.out.chg
        obtain ⟨_, _, _, _, HCA⟩ := HPd.out.c_
        clear KK HRR HP
        refine takeWE (i := 0) (d := (some 216)) (v := ?_) rfl rfl (by kernel_rfl) (by kernel_rfl) (by kernel_rfl) (by kernel_rfl) (by kernel_rfl) (fun _ _ _ h => h) (by rfl) ?_ (by assumption) ?_
        rotate_left
        · intro w' hSw; (try dsimp only at hSw); go_simp; try with_reducible rfl
        try simp only [Act.put, List.setIfInBounds_toArray, List.set_cons_zero, List.set_cons_succ]
        refine takeWE (i := 2) (d := (some 218)) (v := ?_) rfl rfl (by kernel_rfl) (by kernel_rfl) (by kernel_rfl) (by kernel_rfl) (by kernel_rfl) (fun _ _ _ h => h) (by rfl) ?_ (by assumption) ?_
        rotate_left
        · intro w' hSw; (try dsimp only at hSw); go_simp; try with_reducible rfl
        try simp only [Act.put, List.setIfInBounds_toArray, List.set_cons_zero, List.set_cons_succ]
        refine takeWE (i := 3) (d := (some 219)) (v := ?_) rfl rfl (by kernel_rfl) (by kernel_rfl) (by kernel_rfl) (by kernel_rfl) (by kernel_rfl) (fun _ _ _ h => h) (by rfl) ?_ (by assumption) ?_
        rotate_left
        · intro w' hSw; (try dsimp only at hSw); go_simp; try with_reducible rfl
        try simp only [Act.put, List.setIfInBounds_toArray, List.set_cons_zero, List.set_cons_succ]
        refine takeWE (i := 4) (d := (some 220)) (v := ?_) rfl rfl (by kernel_rfl) (by kernel_rfl) (by kernel_rfl) (by kernel_rfl) (by kernel_rfl) (fun _ _ _ h => h) (by rfl) ?_ (by assumption) ?_
        rotate_left
        · intro w' hSw; (try dsimp only at hSw); go_simp; try with_reducible rfl
        try simp only [Act.put, List.setIfInBounds_toArray, List.set_cons_zero, List.set_cons_succ]
        refine takeWE (i := 5) (d := (some 221)) (v := ?_) rfl rfl (by kernel_rfl) (by kernel_rfl) (by kernel_rfl) (by kernel_rfl) (by kernel_rfl) (fun _ _ _ h => h) (by rfl) ?_ (by assumption) ?_
        rotate_left
        · intro w' hSw; (try dsimp only at hSw); go_simp; try with_reducible rfl
        try simp only [Act.put, List.setIfInBounds_toArray, List.set_cons_zero, List.set_cons_succ]
        refine wpE_ready (rs := [1]) (by kernel_rfl) (by simp) ?_
        refine AllE.cons rfl (fun K hK => ?_) (AllE.nil)
        go_simp
        go_at_call 28
        (with_reducible refine (allC_all HCA (by omega) HG.out.valid).mono ?_)
        rintro e w6 ⟨A6, c6, ms6, rfl, hm6, h6⟩
        have HM6 := Lib.hid hm6
        have HV6 := Lib.hid (h6.get 0 rfl)
        have HC6 := Lib.hid h6.chg
        have hl6 : ms6.length ≤ 1000000 := by have := congrArg List.length hm6; rw [List.length_map] at this; omega
        clear hm6 h6
        go_wp2_with (fail)
        refine hK.out _ _ ?_ (fun hHeld => ?_)
        · exact KD.out _ HC6.out
        clear hK K
        try simp only [Act.put, List.setIfInBounds_toArray, List.set_cons_zero, List.set_cons_succ]
        refine wpE_ready (rs := [6]) (by kernel_rfl) (by simp) ?_
        refine AllE.cons rfl (fun K hK => ?_) (AllE.nil)
        go_simp
        go_at_call 29
        refine (versions_eq w6 A6 c6 ms6 Ar cr msr (HM6.out.trans HMR.out.symm) (VsP.rd HV6.out) (VsP.rd (HRd.out.keep HC6.out).toVsP) (VsP.rdat HV6.out) (VsP.rdat (HRd.out.keep HC6.out).toVsP) (by omega)).mono ?_
        rintro e w7 ⟨rfl, h7⟩
        have HC7 := Lib.hid (HC6.out.trans h7 (by simp))
        clear h7
        go_wp2_with (fail)
        refine hK.out _ _ ?_ (fun hHeld => ?_)
        · exact KD.out _ HC7.out
        clear hK K
        try simp only [Act.put, List.setIfInBounds_toArray, List.set_cons_zero, List.set_cons_succ]
        refine takeWE (i := 7) (d := (some 223)) (v := ?_) rfl rfl (by kernel_rfl) (by kernel_rfl) (by kernel_rfl) (by kernel_rfl) (by kernel_rfl) (fun _ _ _ h => h) (by rfl) ?_ (by assumption) ?_
        rotate_left
        · intro w' hSw; (try dsimp only at hSw); go_simp; try with_reducible rfl
        try simp only [Act.put, List.setIfInBounds_toArray, List.set_cons_zero, List.set_cons_succ]
        refine wpE_ready (rs := [8]) (by kernel_rfl) (by simp) ?_
        refine AllE.cons rfl (fun K hK => ?_) (AllE.nil)
        go_simp
        go_at_call 13
        (with_reducible refine (known_any _).mono ?_)
        rintro e w8 ⟨rfl, h8⟩
        have HC8 := Lib.hid (HC7.out.trans h8 (by simp))
        clear h8
        go_wp2_with (fail)
        refine hK.out _ _ ?_ (fun hHeld => ?_)
        · exact KD.out _ HC8.out
        clear hK K
        try simp only [Act.put, List.setIfInBounds_toArray, List.set_cons_zero, List.set_cons_succ]
        refine takeWE (i := 9) (d := (some 225)) (v := ?_) rfl rfl (by kernel_rfl) (by kernel_rfl) (by kernel_rfl) (by kernel_rfl) (by kernel_rfl) (fun _ _ _ h => h) (by rfl) ?_ (by assumption) ?_
        rotate_left
        · intro w' hSw; (try dsimp only at hSw); go_simp; try with_reducible rfl
        try simp only [Act.put, List.setIfInBounds_toArray, List.set_cons_zero, List.set_cons_succ]
        refine wpE_ready (rs := [10]) (by kernel_rfl) (by simp) ?_
        refine AllE.last rfl (by kernel_rfl) (fun K hK => ?_)
        go_simp
        go_wp2_with (fail)
        refine hK.out _ _ ?_
        clear hK K hHeld
        go_wp2_with (fail)
        go_ret
        exact ⟨rfl, HCW.out.trans HC8.out (by simp)⟩
    · have hki : ¬ (k : Int) < (acs.length : Int) := by omega
      obtain ⟨Ar, cr, msr, hmr, hrr⟩ := HP.out.rd
      have HMR := Lib.hid hmr
      have HRR := Lib.hid hrr
      have KK : Hid (∀ w', Chg [] wr w' → w'.cell? ⟨gr, 0, none⟩ = some (.slice Ar msr.length cr)) := fun w' hc => (HRR.out.at_.keep hc (by simp)).cell 0
      clear hmr hrr
      go_upto_region 45 with (fail)
      refine wp_regionE 10 (fun w' => w'.cell? ⟨gr, 0, none⟩ = some (.slice Ar msr.length cr)) (by kernel_rfl) ?_ (fun hHeld => ?_)
      · exact KK.out _ ((Chg.refl [] wr).drew)
      have HDR : Hid (Chg [] wr wr.drew) := (Chg.refl [] wr).drew
      generalize wr.drew = wd at *
      have KD : Hid (∀ w', Chg [] wd w' → w'.cell? ⟨gr, 0, none⟩ = some (.slice Ar msr.length cr)) := fun w' hc => KK.out _ (HDR.out.trans hc (by simp))
      have HRd := Lib.hid (HRR.out.keep HDR.out)
      have HPd := Lib.hid (HP.out.quiet HDR.out)
      have HCW := Lib.hid HPd.out.chg
      obtain ⟨_, _, _, _, HCA⟩ := HPd.out.c_
      clear KK HRR HP
      refine takeWE (i := 0) (d := (some 216)) (v := ?_) rfl rfl (by kernel_rfl) (by kernel_rfl) (by kernel_rfl) (by kernel_rfl) (by kernel_rfl) (fun _ _ _ h => h) (by rfl) ?_ (by assumption) ?_
      rotate_left
      · intro w' hSw; (try dsimp only at hSw); go_simp; try with_reducible rfl
      try simp only [Act.put, List.setIfInBounds_toArray, List.set_cons_zero, List.set_cons_succ]
      refine takeWE (i := 2) (d := (some 218)) (v := ?_) rfl rfl (by kernel_rfl) (by kernel_rfl) (by kernel_rfl) (by kernel_rfl) (by kernel_rfl) (fun _ _ _ h => h) (by rfl) ?_ (by assumption) ?_
      rotate_left
      · intro w' hSw; (try dsimp only at hSw); go_simp; try with_reducible rfl
      try simp only [Act.put, List.setIfInBounds_toArray, List.set_cons_zero, List.set_cons_succ]
      refine takeWE (i := 3) (d := (some 219)) (v := ?_) rfl rfl (by kernel_rfl) (by kernel_rfl) (by kernel_rfl) (by kernel_rfl) (by kernel_rfl) (fun _ _ _ h => h) (by rfl) ?_ (by assumption) ?_
      rotate_left
      · intro w' hSw; (try dsimp only at hSw); go_simp; try with_reducible rfl
      try simp only [Act.put, List.setIfInBounds_toArray, List.set_cons_zero, List.set_cons_succ]
      refine takeWE (i := 4) (d := (some 220)) (v := ?_) rfl rfl (by kernel_rfl) (by kernel_rfl) (by kernel_rfl) (by kernel_rfl) (by kernel_rfl) (fun _ _ _ h => h) (by rfl) ?_ (by assumption) ?_
      rotate_left
      · intro w' hSw; (try dsimp only at hSw); go_simp; try with_reducible rfl
      try simp only [Act.put, List.setIfInBounds_toArray, List.set_cons_zero, List.set_cons_succ]
      refine takeWE (i := 5) (d := (some 221)) (v := ?_) rfl rfl (by kernel_rfl) (by kernel_rfl) (by kernel_rfl) (by kernel_rfl) (by kernel_rfl) (fun _ _ _ h => h) (by rfl) ?_ (by assumption) ?_
      rotate_left
      · intro w' hSw; (try dsimp only at hSw); go_simp; try with_reducible rfl
      try simp only [Act.put, List.setIfInBounds_toArray, List.set_cons_zero, List.set_cons_succ]
      refine wpE_ready (rs := [1]) (by kernel_rfl) (by simp) ?_
      refine AllE.cons rfl (fun K hK => ?_) (AllE.nil)
      go_simp
      go_at_call 28
      (with_reducible refine (allC_all HCA (by omega) HG.out.valid).mono ?_)
      rintro e w6 ⟨A6, c6, ms6, rfl, hm6, h6⟩
      have HM6 := Lib.hid hm6
      have HV6 := Lib.hid (h6.get 0 rfl)
      have HC6 := Lib.hid h6.chg
      have hl6 : ms6.length ≤ 1000000 := by have := congrArg List.length hm6; rw [List.length_map] at this; omega
      clear hm6 h6
      go_wp2_with (fail)
      refine hK.out _ _ ?_ (fun hHeld => ?_)
      · exact KD.out _ HC6.out
      clear hK K
      try simp only [Act.put, List.setIfInBounds_toArray, List.set_cons_zero, List.set_cons_succ]
      refine wpE_ready (rs := [6]) (by kernel_rfl) (by simp) ?_
      refine AllE.cons rfl (fun K hK => ?_) (AllE.nil)
      go_simp
      go_at_call 29
      refine (versions_eq w6 A6 c6 ms6 Ar cr msr (HM6.out.trans HMR.out.symm) (VsP.rd HV6.out) (VsP.rd (HRd.out.keep HC6.out).toVsP) (VsP.rdat HV6.out) (VsP.rdat (HRd.out.keep HC6.out).toVsP) (by omega)).mono ?_
      rintro e w7 ⟨rfl, h7⟩
      have HC7 := Lib.hid (HC6.out.trans h7 (by simp))
      clear h7
      go_wp2_with (fail)
      refine hK.out _ _ ?_ (fun hHeld => ?_)
      · exact KD.out _ HC7.out
      clear hK K
      try simp only [Act.put, List.setIfInBounds_toArray, List.set_cons_zero, List.set_cons_succ]
      refine takeWE (i := 7) (d := (some 223)) (v := ?_) rfl rfl (by kernel_rfl) (by kernel_rfl) (by kernel_rfl) (by kernel_rfl) (by kernel_rfl) (fun _ _ _ h => h) (by rfl) ?_ (by assumption) ?_
      rotate_left
      · intro w' hSw; (try dsimp only at hSw); go_simp; try with_reducible rfl
      try simp only [Act.put, List.setIfInBounds_toArray, List.set_cons_zero, List.set_cons_succ]
      refine wpE_ready (rs := [8]) (by kernel_rfl) (by simp) ?_
      refine AllE.cons rfl (fun K hK => ?_) (AllE.nil)
      go_simp
      go_at_call 13
      (with_reducible refine (known_any _).mono ?_)
      rintro e w8 ⟨rfl, h8⟩
      have HC8 := Lib.hid (HC7.out.trans h8 (by simp))
      clear h8
      go_wp2_with (fail)
      refine hK.out _ _ ?_ (fun hHeld => ?_)
      · exact KD.out _ HC8.out
      clear hK K
      try simp only [Act.put, List.setIfInBounds_toArray, List.set_cons_zero, List.set_cons_succ]
      refine takeWE (i := 9) (d := (some 225)) (v := ?_) rfl rfl (by kernel_rfl) (by kernel_rfl) (by kernel_rfl) (by kernel_rfl) (by kernel_rfl) (fun _ _ _ h => h) (by rfl) ?_ (by assumption) ?_
      rotate_left
      · intro w' hSw; (try dsimp only at hSw); go_simp; try with_reducible rfl
      try simp only [Act.put, List.setIfInBounds_toArray, List.set_cons_zero, List.set_cons_succ]
      refine wpE_ready (rs := [10]) (by kernel_rfl) (by simp) ?_
      refine AllE.last rfl (by kernel_rfl) (fun K hK => ?_)
      go_simp
      go_wp2_with (fail)
      refine hK.out _ _ ?_
      clear hK K hHeld
      go_wp2_with (fail)
      go_ret
      exact ⟨rfl, HCW.out.trans HC8.out (by simp)⟩
end Go.Proofs.Ytmliclfepnebfaa
