
/-
  ChainTrims: the walk of the law.
-/
import Derived.Test.YtmliclfepnebfaaChRef
import Derived.Test.YtmliclfepnebfaaOpenL
import Derived.Test.YtmliclfepnebfaaSameL
namespace Go.Proofs.Ytmliclfepnebfaa
open Go.RowKit
set_option linter.unusedVariables false
set_option linter.unusedSimpArgs false
set_option maxRecDepth 100000 in
set_option maxHeartbeats 12800000 in
theorem chainTrims_law (w : World) (x : Sl VrV) (hx : Rd w 6 x.A x.ls.length (x.ls.flatMap VrV.cells) ∧ x.ls.length ≤ x.c ∧ x.c ≤ maxLen ∧ x.ls.length * 64 ≤ 140737488351232 ∧ ∀ a ∈ x.ls, VrV.InN w a) (s : St) (hs : (Lit.int .i64 s.m).wf = true ∧ (Lit.int .i64 s.c).wf = true) (y : Sl St) (hy : Rd w 2 y.A y.ls.length (y.ls.flatMap fun s => [.int .i64 s.m, .int .i64 s.c]) ∧ y.ls.length ≤ y.c ∧ y.c ≤ maxLen ∧ y.ls.length * 16 ≤ 140737488351232 ∧ ∀ a ∈ y.ls, (Lit.int .i64 a.m).wf = true ∧ (Lit.int .i64 a.c).wf = true) :
    Calls Try.prog 5 #[.slice x.A x.ls.length x.c, .agg #[.int .i64 s.m, .int .i64 s.c], .slice y.A y.ls.length y.c] w fun e w' => e = .returned (.bool true) ∧ Chg [] w w' := by
  have hX := Vers.of hx
  obtain ⟨A, c, ls⟩ := x
  obtain ⟨fm, fc⟩ := s
  obtain ⟨B, cb0, ats⟩ := y
  obtain ⟨hyr, _, _, hyl, hyb⟩ := hy
  clear hx
  have hfm := (bounds_i64 hs.1).2
  clear hs
  have HYR : Hid (Rd w 2 B ats.length (cS ats)) := by have := hyr; rwa [show (ats.flatMap fun s => [Value.int .i64 s.m, .int .i64 s.c]) = cS ats from cS_flat ats] at this
  have HYB : Hid (∀ a ∈ ats, a.m ≤ 9223372036854775807) := fun a ha => (bounds_i64 (hyb a ha).1).2
  have hal : ats.length ≤ 140737488351232 := by simp only at hyl; omega
  clear hyr hyl hyb
  have HX := Lib.hid hX
  have hll : ls.length ≤ 140737488351232 := hX.len
  have HR : Hid (Rd w 6 A ls.length (cVr ls)) := hX.rd
  have HVL : Hid (∀ x ∈ ls, x.val.length ≤ 140737488351232) := fun x hx => (hX.dat x hx).vl
  clear hX
  show Calls Try.prog 5 #[.slice A ls.length c, .agg #[.int .i64 fm, .int .i64 fc], .slice B ats.length cb0] w _
  have HB0 := Lib.hid (At.new w 25 #[.int .i64 fm, .int .i64 fc])
  have HC0 := Lib.hid ((Chg.refl [] w).alloc (.cells #[.int .i64 fm, .int .i64 fc] 25))
  have HR0 := Lib.hid (HR.out.keep0 HC0.out)
  clear HR
  go_enter Try.func5, Try.ntmps5
  go_wp2_with (fail)
  generalize w.alloc (.cells #[.int .i64 fm, .int .i64 fc] 25) = wz at *
  obtain ⟨g4, hg4⟩ : ∃ g, w.heap.size = g := ⟨_, rfl⟩
  rw [hg4] at HB0 ⊢
  clear hg4
  refine (heavyV_any wz A c ls HR0.out hll HVL.out).mono ?_
  rintro e w1 ⟨hv, rfl, hhv, hc1⟩
  have HC1 := Lib.hid (HC0.out.trans hc1 (by simp))
  cases hv
  rotate_left
  · clear hhv
    go_wp2_with (fail)
    go_ret
    exact ⟨rfl, HC1.out⟩
  have hsum := Lib.hid (hhv rfl)
  clear hhv
  have hl1 : ls.length ≤ 1000 := by have := hsum.out; omega
  have HLA := Lib.hid ((HX.out.laid hsum.out).keep HC1.out)
  have HB1 := Lib.hid (HB0.out.keep hc1 (by simp))
  clear HX HB0 HC0 HR0 hc1
  by_cases h1 : 100 < ats.length
  · have h1i : decide ((100 : Int) < (ats.length : Int)) = true := decide_eq_true (by omega)
    go_wp2_with (fail)
    go_ret
    exact ⟨rfl, HC1.out⟩
  have h1i : decide ((100 : Int) < (ats.length : Int)) = false := decide_eq_false (by omega)
  have HY1 := Lib.hid (HYR.out.keep0 HC1.out)
  go_wp2_with (fail)
  refine (ofC_any w1 A c ls HLA.out (by omega)).mono ?_
  rintro e w2 (⟨hz, ga, rfl, hA, hG, hl⟩ | ⟨hz, rfl, hc2⟩)
  rotate_left
  · have HL2 := Lib.hid (HLA.out.keep hc2)
    have HC2 := Lib.hid (HC1.out.trans hc2 (by simp))
    clear hc2
    go_wp2_with (fail)
    refine (ofC_any w2 A c ls HL2.out (by omega)).mono ?_
    rintro e w3 (⟨hz', _⟩ | ⟨_, rfl, hc3⟩)
    · exact absurd hz' hz
    have HL3 := Lib.hid (HL2.out.keep hc3)
    have HC3 := Lib.hid (HC2.out.trans hc3 (by simp))
    clear hc3
    go_wp2_with (fail)
    refine (ofRef_any w3 A c ls HL3.out (by omega)).mono ?_
    rintro e w4 (⟨hz', _⟩ | ⟨_, rfl, hc4⟩)
    · exact absurd hz' hz
    have HC4 := Lib.hid (HC3.out.trans hc4 (by simp))
    generalize (ofR [] (List.map VrV.v ls)).1 = er at *
    have hb : (er != 0) = true := by rw [bne_iff_ne]; exact hz
    clear hz hc4
    go_wp2_with (fail)
    refine (known_any _).mono ?_
    rintro e wk ⟨rfl, hck⟩
    go_wp2_with (fail)
    go_ret
    exact ⟨rfl, HC4.out.trans hck (by simp)⟩
  have HL2 := Lib.hid (HLA.out.keep hA.chg)
  have HN2 := Lib.hid hA
  have HZ := Lib.hid hz
  clear hA
  go_wp2_with (fail)
  refine (ofC_any w2 A c ls HL2.out (by omega)).mono ?_
  rintro e w3 (⟨_, gb, rfl, hB, _, _⟩ | ⟨hz', _⟩)
  rotate_left
  · exact absurd hz hz'
  obtain ⟨Ab, cb, msb, hmb, HAB⟩ := hB
  have HL3 := Lib.hid (HL2.out.keep HAB.chg)
  have HN3 := Lib.hid (HN2.out.one HAB (rCh_stable _ _ _ _ _ _))
  have HMB := Lib.hid hmb
  clear HAB hmb HN2
  go_wp2_with (fail)
  refine (ofRef_any w3 A c ls HL3.out (by omega)).mono ?_
  rintro e w4 (⟨_, gr, rfl, hR, _, _⟩ | ⟨hz', _⟩)
  rotate_left
  · exact absurd hz hz'
  have HLN := Lib.hid (ofR_len hz)
  have HN4 := Lib.hid (HN3.out.quiet hR.chg)
  rw [List.length_map] at hl HLN
  have HG := Lib.hid hG
  clear hR HN3 hG hz HZ HL2 HL3 HLA
  generalize (ofR [] (List.map VrV.v ls)).2 = acc at *
  have x0 := (HB1.out.keep HN4.out.chg (by simp)).cell 0
  have x1 := (HB1.out.keep HN4.out.chg (by simp)).cell 1
  simp only [List.getElem?_toArray, List.getElem?_cons_zero, List.getElem?_cons_succ] at x0 x1
  have HTL := Lib.hid (trim_left HG.out.rise ⟨fm, fc⟩)
  have HTG : Hid (∀ t : St, cmpS ⟨fm, fc⟩ t ≤ 0 → getB (acc.drop (trimN acc ⟨fm, fc⟩)) t = getB acc t ∧ getD (acc.drop (trimN acc ⟨fm, fc⟩)) t = getD acc t) := fun t ht => trim_get HG.out.rise ht
  have hnl : trimN acc ⟨fm, fc⟩ ≤ acc.length := Nat.le_trans (trimN_le _ _) (uptoV_le _ _)
  have HTR := Lib.hid (trimC_all HN4.out (by omega) HG.out.valid fm fc hfm)
  have HGD := Lib.hid (HG.out.drop (trimN acc ⟨fm, fc⟩))
  generalize trimN acc ⟨fm, fc⟩ = n at *
  clear HN4
  go_wp2_with (fail)
  refine HTR.out.mono ?_
  rintro e w5 ⟨rfl, h5⟩
  have HN5 := Lib.hid h5
  clear h5 HTR x0 x1
  have hdl : (acc.drop n).length = acc.length - n := List.length_drop
  have HDLN := Lib.hid hdl
  have hdle : (acc.drop n).length ≤ 1000 := by omega
  clear hdl
  generalize acc.drop n = dro at *
  go_wp2_with (fail)
  go_loopw [14] (fun i wr => ∃ k : Nat, k ≤ ats.length ∧ i = .int .i64 k ∧ Hid (ChA 65 w1 wr ga dro [rCh 65 gb Ab cb msb])) (fun i _ => ats.length - (intOf i).toNat)
  case atStart => exact ⟨0, Nat.zero_le _, rfl, HN5.out⟩
  case round =>
    obtain ⟨k, hk, rfl, HN⟩ := hrel
    have HBr := Lib.hid (HB1.out.keep HN.out.chg (by simp))
    by_cases hlt : k < ats.length
    · have hki : (k : Int) < (ats.length : Int) := by omega
      have hk0 : (0 : Int) ≤ (k : Int) := by omega
      obtain ⟨ad, hAd, had, hc0, hc1⟩ := (HY1.out.keep0 HN.out.chg).getS hlt
      have hab := HYB.out _ (List.getElem_mem hlt)
      subst hAd
      generalize ats[k] = av at *
      obtain ⟨am, ac⟩ := av
      simp only at hc0 hc1 hab
      obtain ⟨M, HMXX⟩ : ∃ M, Hid (maxS [⟨fm, fc⟩, ⟨am, ac⟩] = M) := ⟨_, Lib.hid rfl⟩
      obtain ⟨mm, mc⟩ := M
      have HMX : Hid (maxS [⟨fm, fc⟩, ⟨am, ac⟩] = ⟨mm, mc⟩) := HMXX
      have hsp := maxS_spec [⟨fm, fc⟩, ⟨am, ac⟩]
      rw [HMX.out] at hsp
      have hle := hsp.2 ⟨fm, fc⟩ List.mem_cons_self
      have hmm : mm ≤ 9223372036854775807 := by
        obtain ⟨s, hs1, hs2⟩ := hsp.1 (by simp)
        rcases List.mem_cons.1 hs1 with rfl | hs1
        · injection hs2 with h1 h2; omega
        · obtain rfl := List.mem_singleton.1 hs1
          injection hs2 with h1 h2; omega
      obtain ⟨hgb, hgd⟩ := HTG.out ⟨mm, mc⟩ hle
      have HGB := Lib.hid hgb
      have HGDD := Lib.hid hgd
      clear HMXX hsp hle hgb hgd
      have KK : Hid (∀ w', Chg [] wr w' → w'.cell? ⟨g4, 0, none⟩ = some (.int .i64 fm) ∧ w'.cell? ⟨g4, 1, none⟩ = some (.int .i64 fc) ∧ w'.cell? (ad.add (k * 2)) = some (.int .i64 am) ∧ w'.cell? ⟨(ad.add (k * 2)).block, (ad.add (k * 2)).off + 1, none⟩ = some (.int .i64 ac)) := fun w' hc => ⟨(HBr.out.keep hc (by simp)).cell 0, (HBr.out.keep hc (by simp)).cell 1, (hc.cell (by rw [add_block]; exact had) (by simp)).trans hc0, (hc.cell (p := ⟨(ad.add (k * 2)).block, (ad.add (k * 2)).off + 1, none⟩) (by show (ad.add (k * 2)).block < _; rw [add_block]; exact had) (by simp)).trans hc1⟩
      clear hc0 hc1
      go_upto_region 14 with (fail)
      go_cut [15] from 61 to 94 (fun s15 wx => ∃ g15, s15 = .pointer (some ⟨g15, 0, none⟩) ∧ Hid (At wx g15 25 #[.int .i64 mm, .int .i64 mc]) ∧ Hid (Chg [] wr wx))
      case first =>
        refine wp_regionE 8 (fun w' => w'.cell? ⟨g4, 0, none⟩ = some (.int .i64 fm) ∧ w'.cell? ⟨g4, 1, none⟩ = some (.int .i64 fc) ∧ w'.cell? (ad.add (k * 2)) = some (.int .i64 am) ∧ w'.cell? ⟨(ad.add (k * 2)).block, (ad.add (k * 2)).off + 1, none⟩ = some (.int .i64 ac)) (by kernel_rfl) ?_ (fun hHeld => ?_)
        · exact KK.out _ ((Chg.refl [] wr).drew)
        have HDR : Hid (Chg [] wr wr.drew) := (Chg.refl [] wr).drew
        generalize wr.drew = wd at *
        have HCD := HDR
        have HDX : Hid (Chg [] wd wd) := Chg.refl _ _
        have KD : Hid (∀ w', Chg [] wd w' → w'.cell? ⟨g4, 0, none⟩ = some (.int .i64 fm) ∧ w'.cell? ⟨g4, 1, none⟩ = some (.int .i64 fc) ∧ w'.cell? (ad.add (k * 2)) = some (.int .i64 am) ∧ w'.cell? ⟨(ad.add (k * 2)).block, (ad.add (k * 2)).off + 1, none⟩ = some (.int .i64 ac)) := fun w' hc => KK.out _ (HCD.out.trans hc (by simp))
        clear KK
        refine takeWE (i := 0) (d := (some 67)) (v := ?_) rfl rfl (by kernel_rfl) (by kernel_rfl) (by kernel_rfl) (by kernel_rfl) (by kernel_rfl) (fun _ _ _ h => h) (by rfl) ?_ (by assumption) ?_
        rotate_left
        · intro w' hSw; (try dsimp only at hSw); go_simp; try with_reducible rfl
        try simp only [Act.put, List.setIfInBounds_toArray, List.set_cons_zero, List.set_cons_succ]
        refine takeWE (i := 1) (d := (some 68)) (v := ?_) rfl rfl (by kernel_rfl) (by kernel_rfl) (by kernel_rfl) (by kernel_rfl) (by kernel_rfl) (fun _ _ _ h => h) (by rfl) ?_ (by assumption) ?_
        rotate_left
        · intro w' hSw; (try dsimp only at hSw); go_simp; try with_reducible rfl
        try simp only [Act.put, List.setIfInBounds_toArray, List.set_cons_zero, List.set_cons_succ]
        refine takeWE (i := 2) (d := (some 69)) (v := ?_) rfl rfl (by kernel_rfl) (by kernel_rfl) (by kernel_rfl) (by kernel_rfl) (by kernel_rfl) (fun _ _ _ h => h) (by rfl) ?_ (by assumption) ?_
        rotate_left
        · intro w' hSw; (try dsimp only at hSw); go_simp; try with_reducible rfl
        try simp only [Act.put, List.setIfInBounds_toArray, List.set_cons_zero, List.set_cons_succ]
        refine takeWE (i := 3) (d := (some 70)) (v := ?_) rfl rfl (by kernel_rfl) (by kernel_rfl) (by kernel_rfl) (by kernel_rfl) (by kernel_rfl) (fun _ _ _ h => h) (by rfl) ?_ (by assumption) ?_
        rotate_left
        · intro w' hSw; (try dsimp only at hSw); go_simp; try with_reducible rfl
        try simp only [Act.put, List.setIfInBounds_toArray, List.set_cons_zero, List.set_cons_succ]
        refine takeWE (i := 4) (d := (some 71)) (v := ?_) rfl rfl (by kernel_rfl) (by kernel_rfl) (by kernel_rfl) (by kernel_rfl) (by kernel_rfl) (fun _ _ _ h => h) (by rfl) ?_ (by assumption) ?_
        rotate_left
        · intro w' hSw; (try dsimp only at hSw); go_simp; try with_reducible rfl
        try simp only [Act.put, List.setIfInBounds_toArray, List.set_cons_zero, List.set_cons_succ]
        refine wpE_ready (rs := [5, 7]) (by kernel_rfl) (by simp) ?_
        refine AllE.cons rfl (fun K hK => ?_) (AllE.cons rfl (fun K hK => ?_) (AllE.nil))
        · go_simp
          go_wp2_with (fail)
          have HC5 : Hid (Chg [] wd (wd.alloc (.cells #[.int .i64 fm, .int .i64 fc, .int .i64 am, .int .i64 ac] 25))) := HDX.out.alloc _
          have HR5 : Hid (Rd (wd.alloc (.cells #[.int .i64 fm, .int .i64 fc, .int .i64 am, .int .i64 ac] 25)) 2 (some ⟨wd.heap.size, 0, none⟩) 2 (cS [⟨fm, fc⟩, ⟨am, ac⟩])) := Rd.new' rfl rfl rfl
          generalize wd.heap.size = g5 at *
          generalize wd.alloc (.cells #[.int .i64 fm, .int .i64 fc, .int .i64 am, .int .i64 ac] 25) = w5 at *
          refine hK.out _ _ ?_ (fun hHeld => ?_)
          · exact KD.out _ HC5.out
          clear hK K
          try simp only [Act.put, List.setIfInBounds_toArray, List.set_cons_zero, List.set_cons_succ]
          refine wpE_ready (rs := [6, 7]) (by kernel_rfl) (by simp) ?_
          refine AllE.cons rfl (fun K hK => ?_) (AllE.cons rfl (fun K hK => ?_) (AllE.nil))
          · go_simp
            go_at_call 30
            refine (refMax_to _ _ 2 _ [⟨fm, fc⟩, ⟨am, ac⟩] HMX.out rfl HR5.out (by simp)).mono ?_
            rintro e w6 ⟨rfl, hch6⟩
            have HC6 : Hid (Chg [] wd w6) := HC5.out.trans hch6 (by simp)
            clear hch6 HR5
            go_wp2_with (fail)
            refine hK.out _ _ ?_ (fun hHeld => ?_)
            · exact KD.out _ HC6.out
            clear hK K
            try simp only [Act.put, List.setIfInBounds_toArray, List.set_cons_zero, List.set_cons_succ]
            refine wpE_ready (rs := [7]) (by kernel_rfl) (by simp) ?_
            refine AllE.cons rfl (fun K hK => ?_) (AllE.nil)
            go_simp
            go_wp2_with (fail)
            have HC7 : Hid (Chg [] wd (w6.alloc (.cells #[.int .i64 0, .int .i64 0] 25))) := HC6.out.alloc _
            have HA7 := Lib.hid (At.new w6 25 #[.int .i64 0, .int .i64 0])
            have HG7 : Hid (wr.heap.size ≤ w6.heap.size) := Nat.le_trans HCD.out.size HC6.out.size
            generalize w6.heap.size = g7 at *
            generalize w6.alloc (.cells #[.int .i64 0, .int .i64 0] 25) = w7 at *
            refine hK.out _ _ ?_ (fun hHeld => ?_)
            · exact KD.out _ HC7.out
            clear hK K
            try simp only [Act.put, List.setIfInBounds_toArray, List.set_cons_zero, List.set_cons_succ]
            refine wpE_ready (rs := [8]) (by kernel_rfl) (by simp) ?_
            refine AllE.last rfl (by kernel_rfl) (fun K hK => ?_)
            have fa0 := HA7.out.free 0
            have fa1 := HA7.out.free 1
            have ca0 := HA7.out.cell 0
            have ca1 := HA7.out.cell 1
            simp only [List.getElem?_toArray, List.getElem?_cons_zero, List.getElem?_cons_succ] at ca0 ca1
            go_simp
            go_wp2_with (fail)
            refine hK.out _ _ ?_
            clear hK K hHeld fa0 fa1 ca0 ca1
            go_wp2_with (fail)
            go_meet
            refine ⟨g7, rfl, ?_, ?_⟩
            · refine Lib.hid ?_
              have h := (HA7.out.set_ 0 (.int .i64 mm)).set_ 1 (.int .i64 mc)
              simpa using h
            · exact (HCD.out.trans HC7.out (by simp)).trans (((Chg.refl [g7] w7).setCell (.inl (by simp)) _).setCell (.inl (by simp)) _) (fun x hx => .inr (by simp at hx; subst hx; exact HG7.out))
          · go_simp
            go_wp2_with (fail)
            have HC7 : Hid (Chg [] wd (w5.alloc (.cells #[.int .i64 0, .int .i64 0] 25))) := HC5.out.alloc _
            have HA7 := Lib.hid (At.new w5 25 #[.int .i64 0, .int .i64 0])
            have HG7 : Hid (wr.heap.size ≤ w5.heap.size) := Nat.le_trans HCD.out.size HC5.out.size
            have HR5 := Lib.hid (HR5.out.keep0 ((Chg.refl [] w5).alloc (.cells #[.int .i64 0, .int .i64 0] 25)))
            generalize w5.heap.size = g7 at *
            generalize w5.alloc (.cells #[.int .i64 0, .int .i64 0] 25) = w7 at *
            refine hK.out _ _ ?_ (fun hHeld => ?_)
            · exact KD.out _ HC7.out
            clear hK K
            try simp only [Act.put, List.setIfInBounds_toArray, List.set_cons_zero, List.set_cons_succ]
            refine wpE_ready (rs := [6]) (by kernel_rfl) (by simp) ?_
            refine AllE.cons rfl (fun K hK => ?_) (AllE.nil)
            go_simp
            go_at_call 30
            refine (refMax_to _ _ 2 _ [⟨fm, fc⟩, ⟨am, ac⟩] HMX.out rfl HR5.out (by simp)).mono ?_
            rintro e w6 ⟨rfl, hch6⟩
            have HC6 : Hid (Chg [] wd w6) := HC7.out.trans hch6 (by simp)
            have HA7 := Lib.hid (HA7.out.keep (hch6) (by simp))
            clear hch6 HR5
            go_wp2_with (fail)
            refine hK.out _ _ ?_ (fun hHeld => ?_)
            · exact KD.out _ HC6.out
            clear hK K
            try simp only [Act.put, List.setIfInBounds_toArray, List.set_cons_zero, List.set_cons_succ]
            refine wpE_ready (rs := [8]) (by kernel_rfl) (by simp) ?_
            refine AllE.last rfl (by kernel_rfl) (fun K hK => ?_)
            have fa0 := HA7.out.free 0
            have fa1 := HA7.out.free 1
            have ca0 := HA7.out.cell 0
            have ca1 := HA7.out.cell 1
            simp only [List.getElem?_toArray, List.getElem?_cons_zero, List.getElem?_cons_succ] at ca0 ca1
            go_simp
            go_wp2_with (fail)
            refine hK.out _ _ ?_
            clear hK K hHeld fa0 fa1 ca0 ca1
            go_wp2_with (fail)
            go_meet
            refine ⟨g7, rfl, ?_, ?_⟩
            · refine Lib.hid ?_
              have h := (HA7.out.set_ 0 (.int .i64 mm)).set_ 1 (.int .i64 mc)
              simpa using h
            · exact (HCD.out.trans HC6.out (by simp)).trans (((Chg.refl [g7] w6).setCell (.inl (by simp)) _).setCell (.inl (by simp)) _) (fun x hx => .inr (by simp at hx; subst hx; exact HG7.out))
        · go_simp
          go_wp2_with (fail)
          have HC7 : Hid (Chg [] wd (wd.alloc (.cells #[.int .i64 0, .int .i64 0] 25))) := HDX.out.alloc _
          have HA7 := Lib.hid (At.new wd 25 #[.int .i64 0, .int .i64 0])
          have HG7 : Hid (wr.heap.size ≤ wd.heap.size) := Nat.le_trans HCD.out.size HDX.out.size
          generalize wd.heap.size = g7 at *
          generalize wd.alloc (.cells #[.int .i64 0, .int .i64 0] 25) = w7 at *
          refine hK.out _ _ ?_ (fun hHeld => ?_)
          · exact KD.out _ HC7.out
          clear hK K
          try simp only [Act.put, List.setIfInBounds_toArray, List.set_cons_zero, List.set_cons_succ]
          refine wpE_ready (rs := [5]) (by kernel_rfl) (by simp) ?_
          refine AllE.cons rfl (fun K hK => ?_) (AllE.nil)
          go_simp
          go_wp2_with (fail)
          have HC5 : Hid (Chg [] wd (w7.alloc (.cells #[.int .i64 fm, .int .i64 fc, .int .i64 am, .int .i64 ac] 25))) := HC7.out.alloc _
          have HR5 : Hid (Rd (w7.alloc (.cells #[.int .i64 fm, .int .i64 fc, .int .i64 am, .int .i64 ac] 25)) 2 (some ⟨w7.heap.size, 0, none⟩) 2 (cS [⟨fm, fc⟩, ⟨am, ac⟩])) := Rd.new' rfl rfl rfl
          have HA7 := Lib.hid (HA7.out.keep ((Chg.refl [] w7).alloc (.cells #[.int .i64 fm, .int .i64 fc, .int .i64 am, .int .i64 ac] 25)) (by simp))
          generalize w7.heap.size = g5 at *
          generalize w7.alloc (.cells #[.int .i64 fm, .int .i64 fc, .int .i64 am, .int .i64 ac] 25) = w5 at *
          refine hK.out _ _ ?_ (fun hHeld => ?_)
          · exact KD.out _ HC5.out
          clear hK K
          try simp only [Act.put, List.setIfInBounds_toArray, List.set_cons_zero, List.set_cons_succ]
          refine wpE_ready (rs := [6]) (by kernel_rfl) (by simp) ?_
          refine AllE.cons rfl (fun K hK => ?_) (AllE.nil)
          go_simp
          go_at_call 30
          refine (refMax_to _ _ 2 _ [⟨fm, fc⟩, ⟨am, ac⟩] HMX.out rfl HR5.out (by simp)).mono ?_
          rintro e w6 ⟨rfl, hch6⟩
          have HC6 : Hid (Chg [] wd w6) := HC5.out.trans hch6 (by simp)
          have HA7 := Lib.hid (HA7.out.keep (hch6) (by simp))
          clear hch6 HR5
          go_wp2_with (fail)
          refine hK.out _ _ ?_ (fun hHeld => ?_)
          · exact KD.out _ HC6.out
          clear hK K
          try simp only [Act.put, List.setIfInBounds_toArray, List.set_cons_zero, List.set_cons_succ]
          refine wpE_ready (rs := [8]) (by kernel_rfl) (by simp) ?_
          refine AllE.last rfl (by kernel_rfl) (fun K hK => ?_)
          have fa0 := HA7.out.free 0
          have fa1 := HA7.out.free 1
          have ca0 := HA7.out.cell 0
          have ca1 := HA7.out.cell 1
          simp only [List.getElem?_toArray, List.getElem?_cons_zero, List.getElem?_cons_succ] at ca0 ca1
          go_simp
          go_wp2_with (fail)
          refine hK.out _ _ ?_
          clear hK K hHeld fa0 fa1 ca0 ca1
          go_wp2_with (fail)
          go_meet
          refine ⟨g7, rfl, ?_, ?_⟩
          · refine Lib.hid ?_
            have h := (HA7.out.set_ 0 (.int .i64 mm)).set_ 1 (.int .i64 mc)
            simpa using h
          · exact (HCD.out.trans HC6.out (by simp)).trans (((Chg.refl [g7] w6).setCell (.inl (by simp)) _).setCell (.inl (by simp)) _) (fun x hx => .inr (by simp at hx; subst hx; exact HG7.out))
      case rest =>
        obtain ⟨g15, rfl, HA15, HC15⟩ := hcut
        clear KK
        have HNc := Lib.hid (HN.out.quiet HC15.out)
        have u0 := HA15.out.cell 0
        have u1 := HA15.out.cell 1
        simp only [List.getElem?_toArray, List.getElem?_cons_zero, List.getElem?_cons_succ] at u0 u1
        clear HN HBr HC15
        have HGA := Lib.hid (getC_all HNc.out (by omega) HGD.out.valid mm mc hmm)
        rw [HGB.out, HGDD.out] at HGA
        go_wp2_with (fail)
        refine HGA.out.mono ?_
        rintro e w6 ⟨A6, c6, rfl, ho6, hc6⟩
        have HN6 := Lib.hid (HNc.out.quiet hc6)
        have HO6 := Lib.hid (Rd.of_own ho6)
        have HA6 := Lib.hid (HA15.out.keep hc6 (by simp))
        clear HNc HA15 u0 u1 HGA ho6 hc6
        have u0 := HA6.out.cell 0
        have u1 := HA6.out.cell 1
        simp only [List.getElem?_toArray, List.getElem?_cons_zero, List.getElem?_cons_succ] at u0 u1
        have HGB2 := Lib.hid (getC_raw w6 gb Ab cb msb (HN6.out.at_ 0 rfl) (by have := congrArg List.length HMB.out; rw [List.length_map] at this; omega) (by rw [HMB.out]; exact HG.out.valid) mm mc hmm)
        rw [HMB.out] at HGB2
        go_wp2_with (fail)
        refine HGB2.out.mono ?_
        rintro e w7 ⟨A7, c7, rfl, ho7, hc7⟩
        have HN7 := Lib.hid (HN6.out.quiet hc7)
        have HO7 := Lib.hid (Rd.of_own ho7)
        have HO67 := Lib.hid (HO6.out.keep0 hc7)
        clear HN6 HA6 u0 u1 HGB2 ho7 hc7 HO6
        have hgl : (getD acc ⟨mm, mc⟩).length ≤ 140737488355328 := by
          unfold getD
          split
          · rename_i hb
            have hb2 : atB acc ⟨mm, mc⟩ = true := by unfold getB at hb; exact (Bool.and_eq_true_iff.1 hb).1
            have := (isVV_iff.1 (HG.out.valid _ (atX_mem hb2))).d
            omega
          · simp
        generalize getB acc ⟨mm, mc⟩ = gbv at *
        generalize getD acc ⟨mm, mc⟩ = gdv at *
        have HSM := Lib.hid (same_any w7 A6 A7 gdv.length gdv.length c6 c7 gdv gdv rfl rfl HO67.out HO7.out hgl)
        have hdd : decide (gdv = gdv) = true := decide_eq_true rfl
        rw [hdd] at HSM
        have hbb : (gbv != gbv) = false := by cases gbv <;> rfl
        clear hdd hgl
        go_wp2_with (fail)
        refine HSM.out.mono ?_
        rintro e w8 ⟨rfl, hc8⟩
        have HN8 := Lib.hid (HN7.out.quiet hc8)
        clear HN7 HO7 HO67 HSM hc8
        go_wp2_with (fail)
        go_roundw
        case rel => exact ⟨k + 1, by omega, by go_num, HN8.out⟩
        case measure => simp [intOf]; omega
    · obtain rfl : k = ats.length := by omega
      have hki : ¬ (ats.length : Int) < (ats.length : Int) := by omega
      clear HBr HTG
      go_wp2_with (fail)
      refine (allC_all HN.out (by omega) HGD.out.valid).mono ?_
      rintro e w8 ⟨A8, c8, ms8, rfl, hm8, h8⟩
      have HN8 := Lib.hid (HN.out.vers h8)
      have HM8 := Lib.hid hm8
      have hl8 : ms8.length = dro.length := by rw [← hm8, List.length_map]
      have HL8 := Lib.hid hl8
      have hl8b : ms8.length ≤ 1000 := by omega
      have HUU : Hid (∀ (i : Nat) (hi : i < ms8.length), cmpS (ms8[i]).v.st ⟨fm, fc⟩ ≤ 0 ↔ i < uptoV dro ⟨fm, fc⟩) := fun i hi => by
        have := uptoV_iff HGD.out.rise ⟨fm, fc⟩ (i := i) (by rw [← HL8.out]; exact hi)
        simp only [← HM8.out, List.getElem_map] at this
        rw [← HM8.out]
        exact this
      have hUl : uptoV dro ⟨fm, fc⟩ ≤ ms8.length := by rw [HL8.out]; exact uptoV_le _ _
      clear HN hl8 hm8 h8
      obtain ⟨U, HU⟩ : ∃ U, Hid (uptoV dro ⟨fm, fc⟩ = U) := ⟨_, Lib.hid rfl⟩
      rw [HU.out] at HUU hUl
      obtain ⟨sb, HSB⟩ : ∃ sb, Hid (getB dro ⟨fm, fc⟩ = sb) := ⟨_, Lib.hid rfl⟩
      have HU1 : Hid (U = if sb then 1 else 0) := by rw [← HU.out, ← HSB.out]; exact HTL.out.1
      generalize wr = wq at *
      go_wp2_with (fail)
      go_loopw [22, 21] (fun i r wr => ∃ k : Nat, k ≤ ms8.length ∧ i = .int .i64 k ∧ r = .int .i64 ((min k U : Nat) : Int) ∧ Hid (Chg [] w8 wr)) (fun i _ _ => ms8.length - (intOf i).toNat)
      case atStart => exact ⟨0, Nat.zero_le _, rfl, by simp, Chg.refl _ _⟩
      case round =>
        obtain ⟨k, hk, rfl, rfl, HCr⟩ := hrel
        have HNr := Lib.hid (HN8.out.quiet HCr.out)
        have HBr := Lib.hid (HB1.out.keep HNr.out.chg (by simp))
        by_cases hlt : k < ms8.length
        · have hki : (k : Int) < (ms8.length : Int) := by omega
          have hk0 : (0 : Int) ≤ (k : Int) := by omega
          have HUk := Lib.hid (HUU.out k hlt)
          obtain ⟨s, HS⟩ : ∃ s, Hid (cmpS (ms8[k]).v.st ⟨fm, fc⟩ = s) := ⟨_, Lib.hid rfl⟩
          rw [HS.out] at HUk
          have HV8 := Lib.hid (HNr.out.at_ 0 rfl)
          obtain ⟨bd, hBd, hbd, hd0, hd⟩ := (VsP.rd HV8.out).getV hlt
          have hd1 := hd 1 _ (by omega) rfl
          generalize ms8[k] = z at *
          clear hd
          subst hBd
          obtain ⟨m, q, o, A', d, p, g, t⟩ := z
          simp only [VrV.v, VV.st] at hd0 hd1 HS
          have KK : Hid (∀ w', Chg [] wr w' → w'.cell? (bd.add (k * 6)) = some (.int .i64 m) ∧ w'.cell? ⟨(bd.add (k * 6)).block, (bd.add (k * 6)).off + 1, none⟩ = some (.int .i64 q) ∧ w'.cell? ⟨g4, 0, none⟩ = some (.int .i64 fm) ∧ w'.cell? ⟨g4, 1, none⟩ = some (.int .i64 fc)) := fun w' hc => ⟨(hc.cell (by rw [add_block]; exact hbd) (by simp)).trans hd0, (hc.cell (p := ⟨(bd.add (k * 6)).block, (bd.add (k * 6)).off + 1, none⟩) (by show (bd.add (k * 6)).block < _; rw [add_block]; exact hbd) (by simp)).trans hd1, (HBr.out.keep hc (by simp)).cell 0, (HBr.out.keep hc (by simp)).cell 1⟩
          clear hd0 hd1 HV8
          go_upto_region 24 with (fail)
          by_cases hs : s ≤ 0
          · have hY : Hid (k < U) := HUk.out.1 hs
            have hb0 : decide (s ≤ 0) = true := decide_eq_true hs
            have hkU : ((min k U : Nat) : Int) = (k : Int) := by rw [Nat.min_eq_left (Nat.le_of_lt hY.out)]
            rw [hkU]
            refine wp_region_held_drew (S := fun w' => w'.cell? (bd.add (k * 6)) = some (.int .i64 m) ∧ w'.cell? ⟨(bd.add (k * 6)).block, (bd.add (k * 6)).off + 1, none⟩ = some (.int .i64 q) ∧ w'.cell? ⟨g4, 0, none⟩ = some (.int .i64 fm) ∧ w'.cell? ⟨g4, 1, none⟩ = some (.int .i64 fc)) (by kernel_rfl) ?_ (fun hHeld => ?_)
            · exact KK.out _ ((Chg.refl [] wr).drewN 1)
            refine takeW (i := 0) (d := (some 103)) (v := ?_) rfl rfl (by kernel_rfl) (by kernel_rfl) (by kernel_rfl) (fun _ _ _ h => h) (by rfl) ?_ (by assumption) ?_
            rotate_left
            · intro w' hSw; (try dsimp only at hSw); go_simp; try with_reducible rfl
            try simp only [Act.put, List.setIfInBounds_toArray, List.set_cons_zero, List.set_cons_succ]
            refine takeW (i := 1) (d := (some 104)) (v := ?_) rfl rfl (by kernel_rfl) (by kernel_rfl) (by kernel_rfl) (fun _ _ _ h => h) (by rfl) ?_ (by assumption) ?_
            rotate_left
            · intro w' hSw; (try dsimp only at hSw); go_simp; try with_reducible rfl
            try simp only [Act.put, List.setIfInBounds_toArray, List.set_cons_zero, List.set_cons_succ]
            refine takeW (i := 2) (d := (some 105)) (v := ?_) rfl rfl (by kernel_rfl) (by kernel_rfl) (by kernel_rfl) (fun _ _ _ h => h) (by rfl) ?_ (by assumption) ?_
            rotate_left
            · intro w' hSw; (try dsimp only at hSw); go_simp; try with_reducible rfl
            try simp only [Act.put, List.setIfInBounds_toArray, List.set_cons_zero, List.set_cons_succ]
            refine takeW (i := 3) (d := (some 106)) (v := ?_) rfl rfl (by kernel_rfl) (by kernel_rfl) (by kernel_rfl) (fun _ _ _ h => h) (by rfl) ?_ (by assumption) ?_
            rotate_left
            · intro w' hSw; (try dsimp only at hSw); go_simp; try with_reducible rfl
            try simp only [Act.put, List.setIfInBounds_toArray, List.set_cons_zero, List.set_cons_succ]
            refine takeW (i := 4) (d := (some 107)) (v := ?_) rfl rfl (by kernel_rfl) (by kernel_rfl) (by kernel_rfl) (fun _ _ _ h => h) (by rfl) ?_ (by assumption) ?_
            rotate_left
            · intro w' hSw; (try dsimp only at hSw); go_simp; try with_reducible rfl
            try simp only [Act.put, List.setIfInBounds_toArray, List.set_cons_zero, List.set_cons_succ]
            refine takeW (i := 5) (d := (some 108)) (v := ?_) rfl rfl (by kernel_rfl) (by kernel_rfl) (by kernel_rfl) (fun _ _ _ h => h) (by rfl) ?_ (by assumption) ?_
            rotate_left
            · intro w' hSw; (try dsimp only at hSw); go_simp; try with_reducible rfl
            try simp only [Act.put, List.setIfInBounds_toArray, List.set_cons_zero, List.set_cons_succ]
            refine wpAnyH_ready (rs := [6]) (by kernel_rfl) (by simp) ?_
            refine AllReadyH.cons rfl (fun K hK => ?_) AllReadyH.nil
            go_simp
            go_at_call 31
            (with_reducible refine (refCompare_any m q fm fc _).mono ?_)
            rintro e w3 ⟨rfl, hch3⟩
            rw [HS.out]
            have hch23 : Hid (Chg [] wr w3) := ((by repeat' (first | (with_reducible assumption) | (with_reducible exact Chg.refl _ _) | (with_reducible refine Chg.alloc ?_ _) | (with_reducible refine Chg.drewN ?_ _) | (with_reducible refine Chg.drew ?_) | (with_reducible refine Chg.strW ?_ _ _) | (with_reducible refine Chg.t0 ?_ (by with_reducible assumption)))) : Chg [] wr w3)
            go_wp2_with (fail)
            refine hK.out _ _ ?_ (fun hHeld => ?_)
            · first | exact KK.out _ hch23.out | (dsimp only; exact KK.out _ hch23.out)
            clear hK K
            try simp only [Act.put, List.setIfInBounds_toArray, List.set_cons_zero, List.set_cons_succ]
            refine takeW (i := 7) (d := (some 110)) (v := ?_) rfl rfl (by kernel_rfl) (by kernel_rfl) (by kernel_rfl) (fun _ _ _ h => h) (by rfl) ?_ (by assumption) ?_
            rotate_left
            · intro w' hSw; (try dsimp only at hSw); go_simp; try with_reducible rfl
            try simp only [Act.put, List.setIfInBounds_toArray, List.set_cons_zero, List.set_cons_succ]
            refine wpAnyH_done (by kernel_rfl) ?_ _
            go_wp2_with (fail)
            go_roundw
            case rel => exact ⟨k + 1, by omega, by go_num, by have := hY.out; rw [Nat.min_eq_left (by omega)]; go_num, HCr.out.trans hch23.out (by simp)⟩
            case measure => simp [intOf]; omega
          · have hY : Hid (U ≤ k) := Nat.not_lt.1 (fun h => hs (HUk.out.2 h))
            have hb0 : decide (s ≤ 0) = false := decide_eq_false hs
            refine wp_region_held_drew (S := fun w' => w'.cell? (bd.add (k * 6)) = some (.int .i64 m) ∧ w'.cell? ⟨(bd.add (k * 6)).block, (bd.add (k * 6)).off + 1, none⟩ = some (.int .i64 q) ∧ w'.cell? ⟨g4, 0, none⟩ = some (.int .i64 fm) ∧ w'.cell? ⟨g4, 1, none⟩ = some (.int .i64 fc)) (by kernel_rfl) ?_ (fun hHeld => ?_)
            · exact KK.out _ ((Chg.refl [] wr).drewN 1)
            refine takeW (i := 0) (d := (some 103)) (v := ?_) rfl rfl (by kernel_rfl) (by kernel_rfl) (by kernel_rfl) (fun _ _ _ h => h) (by rfl) ?_ (by assumption) ?_
            rotate_left
            · intro w' hSw; (try dsimp only at hSw); go_simp; try with_reducible rfl
            try simp only [Act.put, List.setIfInBounds_toArray, List.set_cons_zero, List.set_cons_succ]
            refine takeW (i := 1) (d := (some 104)) (v := ?_) rfl rfl (by kernel_rfl) (by kernel_rfl) (by kernel_rfl) (fun _ _ _ h => h) (by rfl) ?_ (by assumption) ?_
            rotate_left
            · intro w' hSw; (try dsimp only at hSw); go_simp; try with_reducible rfl
            try simp only [Act.put, List.setIfInBounds_toArray, List.set_cons_zero, List.set_cons_succ]
            refine takeW (i := 2) (d := (some 105)) (v := ?_) rfl rfl (by kernel_rfl) (by kernel_rfl) (by kernel_rfl) (fun _ _ _ h => h) (by rfl) ?_ (by assumption) ?_
            rotate_left
            · intro w' hSw; (try dsimp only at hSw); go_simp; try with_reducible rfl
            try simp only [Act.put, List.setIfInBounds_toArray, List.set_cons_zero, List.set_cons_succ]
            refine takeW (i := 3) (d := (some 106)) (v := ?_) rfl rfl (by kernel_rfl) (by kernel_rfl) (by kernel_rfl) (fun _ _ _ h => h) (by rfl) ?_ (by assumption) ?_
            rotate_left
            · intro w' hSw; (try dsimp only at hSw); go_simp; try with_reducible rfl
            try simp only [Act.put, List.setIfInBounds_toArray, List.set_cons_zero, List.set_cons_succ]
            refine takeW (i := 4) (d := (some 107)) (v := ?_) rfl rfl (by kernel_rfl) (by kernel_rfl) (by kernel_rfl) (fun _ _ _ h => h) (by rfl) ?_ (by assumption) ?_
            rotate_left
            · intro w' hSw; (try dsimp only at hSw); go_simp; try with_reducible rfl
            try simp only [Act.put, List.setIfInBounds_toArray, List.set_cons_zero, List.set_cons_succ]
            refine takeW (i := 5) (d := (some 108)) (v := ?_) rfl rfl (by kernel_rfl) (by kernel_rfl) (by kernel_rfl) (fun _ _ _ h => h) (by rfl) ?_ (by assumption) ?_
            rotate_left
            · intro w' hSw; (try dsimp only at hSw); go_simp; try with_reducible rfl
            try simp only [Act.put, List.setIfInBounds_toArray, List.set_cons_zero, List.set_cons_succ]
            refine wpAnyH_ready (rs := [6]) (by kernel_rfl) (by simp) ?_
            refine AllReadyH.cons rfl (fun K hK => ?_) AllReadyH.nil
            go_simp
            go_at_call 31
            (with_reducible refine (refCompare_any m q fm fc _).mono ?_)
            rintro e w3 ⟨rfl, hch3⟩
            rw [HS.out]
            have hch23 : Hid (Chg [] wr w3) := ((by repeat' (first | (with_reducible assumption) | (with_reducible exact Chg.refl _ _) | (with_reducible refine Chg.alloc ?_ _) | (with_reducible refine Chg.drewN ?_ _) | (with_reducible refine Chg.drew ?_) | (with_reducible refine Chg.strW ?_ _ _) | (with_reducible refine Chg.t0 ?_ (by with_reducible assumption)))) : Chg [] wr w3)
            go_wp2_with (fail)
            refine hK.out _ _ ?_ (fun hHeld => ?_)
            · first | exact KK.out _ hch23.out | (dsimp only; exact KK.out _ hch23.out)
            clear hK K
            try simp only [Act.put, List.setIfInBounds_toArray, List.set_cons_zero, List.set_cons_succ]
            refine takeW (i := 7) (d := (some 110)) (v := ?_) rfl rfl (by kernel_rfl) (by kernel_rfl) (by kernel_rfl) (fun _ _ _ h => h) (by rfl) ?_ (by assumption) ?_
            rotate_left
            · intro w' hSw; (try dsimp only at hSw); go_simp; try with_reducible rfl
            try simp only [Act.put, List.setIfInBounds_toArray, List.set_cons_zero, List.set_cons_succ]
            refine wpAnyH_done (by kernel_rfl) ?_ _
            go_wp2_with (fail)
            go_roundw
            case rel => exact ⟨k + 1, by omega, by go_num, by have := hY.out; rw [Nat.min_eq_right (by omega), Nat.min_eq_right (by omega)], HCr.out.trans hch23.out (by simp)⟩
            case measure => simp [intOf]; omega
        · obtain rfl : k = ms8.length := by omega
          have hki : ¬ (ms8.length : Int) < (ms8.length : Int) := by omega
          have hmin : ((min ms8.length U : Nat) : Int) = (U : Int) := by rw [Nat.min_eq_right hUl]
          rw [hmin]
          have x0 := HBr.out.cell 0
          have x1 := HBr.out.cell 1
          simp only [List.getElem?_toArray, List.getElem?_cons_zero, List.getElem?_cons_succ] at x0 x1
          have HGT := Lib.hid (getC_all HNr.out (by omega) HGD.out.valid fm fc hfm)
          rw [HSB.out] at HGT
          generalize getD dro ⟨fm, fc⟩ = gdz at *
          clear HN8 hmin HUU
          go_wp2_with (fail)
          refine HGT.out.mono ?_
          rintro e w9 ⟨A9, c9, rfl, ho9, hc9⟩
          have HN9 := Lib.hid (HNr.out.quiet hc9)
          have HB9 := Lib.hid (HBr.out.keep hc9 (by simp))
          clear HNr HBr x0 x1 HGT ho9 hc9
          have x0 := HB9.out.cell 0
          have x1 := HB9.out.cell 1
          simp only [List.getElem?_toArray, List.getElem?_cons_zero, List.getElem?_cons_succ] at x0 x1
          have HT2 := Lib.hid (trimC_all HN9.out (by omega) HGD.out.valid fm fc hfm)
          rw [HTL.out.2] at HT2
          have hsumi : ((n : Int) + (ms8.length : Int) == (ls.length : Int)) = true := by
            rw [beq_iff_eq]
            have h1 := HLN.out
            have h2 := HL8.out
            have h3 := HDLN.out
            omega
          cases sb
          · obtain rfl : U = 0 := HU1.out
            go_wp2_with (fail)
            refine HT2.out.mono ?_
            rintro e wa ⟨rfl, ha⟩
            have HCa := Lib.hid (HC1.out.trans ha.chg (by simp))
            clear ha
            go_wp2_with (fail)
            refine (known_any _).mono ?_
            rintro e wk ⟨rfl, hck⟩
            go_wp2_with (fail)
            go_ret
            exact ⟨rfl, HCa.out.trans hck (by simp)⟩
          · obtain rfl : U = 1 := HU1.out
            go_wp2_with (fail)
            refine HT2.out.mono ?_
            rintro e wa ⟨rfl, ha⟩
            have HCa := Lib.hid (HC1.out.trans ha.chg (by simp))
            clear ha
            go_wp2_with (fail)
            refine (known_any _).mono ?_
            rintro e wk ⟨rfl, hck⟩
            go_wp2_with (fail)
            go_ret
            exact ⟨rfl, HCa.out.trans hck (by simp)⟩
end Go.Proofs.Ytmliclfepnebfaa
