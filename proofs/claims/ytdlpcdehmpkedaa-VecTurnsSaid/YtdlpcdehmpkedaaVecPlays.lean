/-
  VecPlays: of every script each answer, what is known, stable, and nobody asks for; neither goes back.
-/
import Derived.Test.YtdlpcdehmpkedaaVecN
import Derived.Test.YtdlpcdehmpkedaaOpenI
import Derived.Deep.DeepCutAuto
import Derived.Deep.CutBlock
import Derived.Deep.RegionWith
namespace Go.Proofs.Ytdlpcdehmpkedaa
open Go.RowKit
attribute [local go_sem ↓] Go.wp_at_zero Go.wp_at_succ
set_option linter.unusedVariables false

theorem floor_to (w : World) (B k f : Nat) (ks fs : List St) (i m c : Int) {r : Bool} {fs' : List St} (hV : VecAt w 45 B k f ks fs) (h1 : raiseOk fs i ⟨m, c⟩ = r) (h2 : raiseL fs i ⟨m, c⟩ = fs') :
    Calls Try.prog 18 #[.pointer (some ⟨B, 0, none⟩), .int .i64 i, .agg #[.int .i64 m, .int .i64 c]] w fun e w' => e = .returned (.bool r) ∧ VecAt w' 45 B k f ks fs' ∧ Chg [f] w w' := by
  subst h1 h2; exact floor_any w B k f ks fs i m c hV
theorem refReach_to (w : World) (B k f : Nat) (ks fs : List St) (i m c : Int) {r : Bool} {ks' : List St} (hV : VecAt w 48 B k f ks fs) (h1 : raiseOk ks i ⟨m, c⟩ = r) (h2 : raiseL ks i ⟨m, c⟩ = ks') :
    Calls Try.prog 17 #[.pointer (some ⟨B, 0, none⟩), .int .i64 i, .agg #[.int .i64 m, .int .i64 c]] w fun e w' => e = .returned (.bool r) ∧ VecAt w' 48 B k f ks' fs ∧ Chg [k] w w' := by
  subst h1 h2; exact refReach_any w B k f ks fs i m c hV
theorem refFloor_to (w : World) (B k f : Nat) (ks fs : List St) (i m c : Int) {r : Bool} {fs' : List St} (hV : VecAt w 48 B k f ks fs) (h1 : raiseOk fs i ⟨m, c⟩ = r) (h2 : raiseL fs i ⟨m, c⟩ = fs') :
    Calls Try.prog 19 #[.pointer (some ⟨B, 0, none⟩), .int .i64 i, .agg #[.int .i64 m, .int .i64 c]] w fun e w' => e = .returned (.bool r) ∧ VecAt w' 48 B k f ks fs' ∧ Chg [f] w w' := by
  subst h1 h2; exact refFloor_any w B k f ks fs i m c hV
theorem mark_to (w : World) (B k f : Nat) (ks fs : List St) {s : St} (hV : VecAt w 45 B k f ks fs) (hl : fs.length ≤ 65536) (h1 : minS fs = s) :
    Calls Try.prog 22 #[.pointer (some ⟨B, 0, none⟩)] w fun e w' => e = .returned (.agg #[.int .i64 s.m, .int .i64 s.c]) ∧ Chg [] w w' := by
  subst h1; exact mark_any w B k f ks fs hV hl
theorem refStable_to (w : World) (B k f : Nat) (ks fs : List St) {s : St} (hV : VecAt w 48 B k f ks fs) (hl : ks.length ≤ 65536) (h1 : minS ks = s) :
    Calls Try.prog 21 #[.pointer (some ⟨B, 0, none⟩)] w fun e w' => e = .returned (.agg #[.int .i64 s.m, .int .i64 s.c]) ∧ Chg [] w w' := by
  subst h1; exact refStable_any w B k f ks fs hV hl
theorem refMark_to (w : World) (B k f : Nat) (ks fs : List St) {s : St} (hV : VecAt w 48 B k f ks fs) (hl : fs.length ≤ 65536) (h1 : minS fs = s) :
    Calls Try.prog 23 #[.pointer (some ⟨B, 0, none⟩)] w fun e w' => e = .returned (.agg #[.int .i64 s.m, .int .i64 s.c]) ∧ Chg [] w w' := by
  subst h1; exact refMark_any w B k f ks fs hV hl
theorem known_to (w : World) (B k f : Nat) (ks fs : List St) (i : Int) {s : St} (hV : VecAt w 45 B k f ks fs) (h1 : knownF ks i = s) :
    Calls Try.prog 14 #[.pointer (some ⟨B, 0, none⟩), .int .i64 i] w fun e w' => e = .returned (.agg #[.int .i64 s.m, .int .i64 s.c]) ∧ Chg [] w w' := by
  subst h1; exact known_of w B k f ks fs i hV
theorem refOf_to (w : World) (B k f : Nat) (ks fs : List St) (i : Int) {s : St} (hV : VecAt w 48 B k f ks fs) (h1 : knownF ks i = s) :
    Calls Try.prog 20 #[.pointer (some ⟨B, 0, none⟩), .int .i64 i] w fun e w' => e = .returned (.agg #[.int .i64 s.m, .int .i64 s.c]) ∧ Chg [] w w' := by
  subst h1; exact refOf_any w B k f ks fs i hV
theorem refCompare_to (w : World) (am ac bm bc n : Int) (h : cmpS ⟨am, ac⟩ ⟨bm, bc⟩ = n) :
    Calls Try.prog 9 #[.agg #[.int .i64 am, .int .i64 ac], .agg #[.int .i64 bm, .int .i64 bc]] w fun e w' => e = .returned (.int .i64 n) ∧ Chg [] w w' := by
  subst h; exact refCompare_any _ _ _ _ _

/-- What is raised does not lower the least one. -/
theorem minS_raise (l : List St) (i : Int) (s : St) : 0 ≤ cmpS (minS (raiseL l i s)) (minS l) := by
  unfold raiseL
  by_cases h : raiseOk l i s = true
  · rw [if_pos h]
    unfold raiseOk at h
    simp only [Bool.and_eq_true, decide_eq_true_eq] at h
    obtain ⟨⟨_, h0, h1⟩, h2⟩ := h
    obtain ⟨k, rfl⟩ := Int.eq_ofNat_of_zero_le h0
    rw [Int.toNat_natCast] at h2 ⊢
    have hk : k < l.length := by omega
    have hpos : 0 < (l.set k s).length := by simp; omega
    obtain ⟨t, ht, e⟩ := (minS_spec (l.set k s)).1 hpos
    rw [e]
    have hmin := (minS_spec l).2
    rcases List.mem_or_eq_of_mem_set ht with ht | rfl
    · exact hmin t ht
    · have h3 := hmin l[k] (List.getElem_mem hk)
      rw [List.getD_eq_getElem?_getD, List.getElem?_eq_getElem hk] at h2
      have h4 := cmpS_gt.1 h2
      simp only [Option.getD_some] at h4
      have h5 : ¬ cmpS l[k] (minS l) < 0 := by omega
      rw [cmpS_lt] at h5
      have h6 : ¬ cmpS t (minS l) < 0 := by rw [cmpS_lt]; omega
      omega
  · rw [if_neg h]
    have := (cmpS_eq (a := minS l) (b := minS l)).2 ⟨rfl, rfl⟩
    omega

/-- Both Vecs, and the last two answers, as they stand in a world. -/
def TwoV (w : World) (np B1 k1 f1 B2 k2 f2 N2 : Nat) (wx : World) : Prop := ∃ (ks fs : List St), Hid (ks.length = np) ∧ Hid (fs.length = np) ∧ VecAt wx 45 B1 k1 f1 ks fs ∧ VecAt wx 48 B2 k2 f2 ks fs ∧
  At wx N2 24 #[.int .i64 (minS ks).m, .int .i64 (minS ks).c] ∧ At wx (N2 + 1) 24 #[.int .i64 (minS fs).m, .int .i64 (minS fs).c] ∧ Chg [] w wx
theorem minS_z (n : Nat) : minS (List.replicate n St.z) = St.z := by
  rcases Nat.eq_zero_or_pos n with rfl | h
  · rfl
  · obtain ⟨s, hs, e⟩ := (minS_spec (List.replicate n St.z)).1 (by simpa using h)
    rw [e]; exact (List.mem_replicate.1 hs).2

set_option maxRecDepth 100000 in
set_option maxHeartbeats 6400000 in
theorem vecPlays_walk (w : World) (pl : Int) (_ : (Lit.int .i64 pl).wf = true) (A : Option Addr) (n c : Nat) (hr : RdI w 4 A n) (_ : n ≤ c) (hcm : c ≤ maxLen) :
    Calls Try.prog 5 #[.int .i64 pl, .slice A n c] w fun e w' => e = .returned (.bool true) ∧ Chg [] w w' := by
  have hnm : n ≤ 9223372036854775807 := by unfold maxLen at hcm; omega
  by_cases hb : pl < 1 ∨ 5 < pl
  · go_enter Try.func5, Try.ntmps5
    go_wp2_with (first
      | (go_at_call 11; refine (new_no _ _ hb).mono ?_; rintro e w' ⟨rfl, rfl⟩)
      | (go_at_call 16; refine (refNew_no _ _ hb).mono ?_; rintro e w' ⟨rfl, rfl⟩)
      | (go_at_call 10; refine (known_any _).mono ?_; rintro e w6 ⟨rfl, hch6⟩))
    go_ret
    exact ⟨rfl, hch6⟩
  · have h0 : 1 ≤ pl := by omega
    have h1 : pl ≤ 5 := by omega
    obtain ⟨np, Hnp⟩ : ∃ np, Hid (pl.toNat = np) := ⟨_, rfl⟩
    have hnp : np ≤ 5 := by rw [← Hnp.out]; omega
    clear hb
    go_enter Try.func5, Try.ntmps5
    go_wp2_with (fail)
    refine (new_yes _ pl h0 h1).mono ?_
    rw [Hnp.out]
    rintro e w1 ⟨B1, k1, f1, rfl, hV1, a1, a2, a3, hch1⟩
    have b1 := hV1.at_.lt
    have b2 := At.lt hV1.ks_
    have b3 := At.lt hV1.fs_
    go_wp2_with (fail)
    refine (refNew_yes _ pl h0 h1).mono ?_
    rw [Hnp.out]
    rintro e w2 ⟨B2, k2, f2, rfl, hX2, a4, a5, a6, hch2⟩
    have hV2 := hV1.keep0 hch2
    have b4 := hX2.at_.lt
    have b5 := At.lt hX2.ks_
    have b6 := At.lt hX2.fs_
    have hsz2 := hch2.size
    have hsz1 := hch1.size
    have hch12 := hch1.trans hch2 (by simp)
    clear hch1 hch2 hV1
    by_cases hbig : 300 < n
    · go_wp2_with (go_at_call 10; refine (known_any _).mono ?_; rintro e w6 ⟨rfl, hch6⟩)
      go_ret
      exact ⟨rfl, hch12.trans hch6 (by simp)⟩
    · have hn3 : n ≤ 300 := by omega
      obtain ⟨N2, HN2⟩ : ∃ N2, Hid (w2.heap.size = N2) := ⟨_, rfl⟩
      have hN2 : N2 = w2.heap.size := HN2.out.symm
      have HT : TwoV w np B1 k1 f1 B2 k2 f2 w2.heap.size ((w2.alloc (.cells #[.int .i64 0, .int .i64 0] 24)).alloc (.cells #[.int .i64 0, .int .i64 0] 24)) := by
        refine ⟨List.replicate np .z, List.replicate np .z, by simp [Hid], by simp [Hid], hV2.keep0 (((Chg.refl _ _).alloc _).alloc _), hX2.keep0 (((Chg.refl _ _).alloc _).alloc _), ?_, ?_, (hch12.alloc _).alloc _⟩
        · rw [minS_z]; exact (At.new _ _ _).keep ((Chg.refl [] _).alloc _) (by simp)
        · rw [minS_z]; simpa [St.z] using At.new (w2.alloc (.cells #[.int .i64 0, .int .i64 0] 24)) 24 #[.int .i64 0, .int .i64 0]
      clear hV2 hX2 hch12 hbig
      go_wp2_with (fail)
      rw [HN2.out] at HT b4 b5 b6 hsz2 ⊢
      clear hN2
      go_loopg [11] n (fun g i wr => ∃ k : Nat, g = n - k ∧ k ≤ n ∧ i = .int .i64 k ∧ TwoV w np B1 k1 f1 B2 k2 f2 N2 wr)
      case atStart => exact ⟨0, rfl, Nat.zero_le _, rfl, by simpa using HT⟩
      case round =>
        clear HT
        obtain ⟨k, hg, hkl, rfl, ks, fs, H1, H2, hV, hX, ho, hp, hch⟩ := hrel
        have Hg := Lib.hid hg
        clear hg
        by_cases hlt : k < n
        · obtain ⟨ad, kd, nn, sm, sc, rfl, had, c0, c1, c2, c3⟩ := (hr.keep0 hch).get4 hlt
          obtain ⟨⟨om, oc⟩, HO⟩ : ∃ q, Hid (minS ks = q) := ⟨_, rfl⟩
          obtain ⟨⟨vm, vc⟩, HP⟩ : ∃ q, Hid (minS fs = q) := ⟨_, rfl⟩
          rw [HO.out] at ho
          rw [HP.out] at hp
          have hpl := hp.lt
          have hs := At.new wr 42 #[.int .i64 kd, .int .i64 nn, .int .i64 sm, .int .i64 sc]
          have hVs := hV.keep0 ((Chg.refl [] _).alloc (.cells #[.int .i64 kd, .int .i64 nn, .int .i64 sm, .int .i64 sc] 42))
          have hXs := hX.keep0 ((Chg.refl [] _).alloc (.cells #[.int .i64 kd, .int .i64 nn, .int .i64 sm, .int .i64 sc] 42))
          have hos := ho.keep ((Chg.refl [] _).alloc (.cells #[.int .i64 kd, .int .i64 nn, .int .i64 sm, .int .i64 sc] 42)) (by simp)
          have hps := hp.keep ((Chg.refl [] _).alloc (.cells #[.int .i64 kd, .int .i64 nn, .int .i64 sm, .int .i64 sc] 42)) (by simp)
          have d1 := hs.cell 1
          have d2 := hs.cell 2
          have d3 := hs.cell 3
          by_cases hkd : (bits BinOp.and IntKind.i64 kd 1 == 1) = true
          · obtain ⟨r, HR⟩ : ∃ r, Hid (raiseOk ks nn ⟨sm, sc⟩ = r) := ⟨_, rfl⟩
            obtain ⟨ks2, HK⟩ : ∃ l, Hid (raiseL ks nn ⟨sm, sc⟩ = l) := ⟨_, rfl⟩
            have HKl : Hid (ks2.length = np) := by unfold Hid; rw [← HK.out, raiseL_len]; exact H1.out
            obtain ⟨⟨qm, qc⟩, HQ⟩ : ∃ q, Hid (knownF ks2 nn = q) := ⟨_, rfl⟩
            obtain ⟨⟨tm, tc⟩, HS⟩ : ∃ q, Hid (minS ks2 = q) := ⟨_, rfl⟩
            obtain ⟨⟨um, uc⟩, HM⟩ : ∃ q, Hid (minS fs = q) := ⟨_, rfl⟩
            obtain ⟨c1, HC1⟩ : ∃ q, Hid (cmpS ⟨tm, tc⟩ ⟨om, oc⟩ = q) := ⟨_, rfl⟩
            obtain ⟨c2, HC2⟩ : ∃ q, Hid (cmpS ⟨um, uc⟩ ⟨vm, vc⟩ = q) := ⟨_, rfl⟩
            have hc1 : 0 ≤ c1 := by rw [← HC1.out, ← HS.out, ← HO.out, ← HK.out]; exact minS_raise _ _ _
            have hc2 : 0 ≤ c2 := by rw [← HC2.out, ← HM.out, ← HP.out]; have := (cmpS_eq (a := minS fs) (b := minS fs)).2 ⟨rfl, rfl⟩; omega
            have hd1 : decide (c1 < 0) = false := by simp; omega
            have hd2 : decide (c2 < 0) = false := by simp; omega
            have hl1 : ks2.length ≤ 65536 := by have := HKl.out; omega
            have hl2 : fs.length ≤ 65536 := by have := H2.out; omega
            go_wp2_with (fail)
            go_region_held3 (fun w' => w'.cell? ⟨wr.heap.size, 1, none⟩ = some (.int .i64 nn) ∧ w'.cell? ⟨wr.heap.size, 2, none⟩ = some (.int .i64 sm) ∧ w'.cell? ⟨wr.heap.size, 3, none⟩ = some (.int .i64 sc)) (first | go_keep | exact ⟨x1, x2, x3⟩)
              (first
                | (go_at_call 12; refine (reach_to _ B1 k1 f1 ks fs nn sm sc (hVs.keep0 ((Chg.refl _ _).drewN 1)) HR.out HK.out).mono ?_; rintro e w3 ⟨rfl, hV3, hch3⟩; have hX3 := (hXs.keep0 ((Chg.refl _ _).drewN 1)).keep hch3 (by simp; omega) (by simp; omega) (by simp; omega); have hs3 := (hs.drewN 1).keep hch3 (by simp; omega); have ho3 := (hos.drewN 1).keep hch3 (by simp; omega); have hp3 := (hps.drewN 1).keep hch3 (by simp; omega); have x1 := hs3.cell 1; have x2 := hs3.cell 2; have x3 := hs3.cell 3; have y1 := hs3.lt)
                | (go_at_call 17; refine (refReach_to _ B2 k2 f2 ks fs nn sm sc hX3 HR.out HK.out).mono ?_; rintro e w4 ⟨rfl, hX4, hch4⟩; have hV4 := hV3.keep hch4 (by simp; omega) (by simp; omega) (by simp; omega); have hs4 := hs3.keep hch4 (by simp; omega); have ho4 := ho3.keep hch4 (by simp; omega); have hp4 := hp3.keep hch4 (by simp; omega); have x1 := hs4.cell 1; have x2 := hs4.cell 2; have x3 := hs4.cell 3))
            have hchz : Chg [] w w4 := (((hch.alloc _).drewN 1).trans hch3 (by simp; omega)).trans hch4 (by simp; omega)
            clear hV hX hVs hXs hs hos hps hV3 hX3 hs3 ho3 hp3 hch3 hch4 ho hp
            go_wp2_with (fail)
            go_region_held3 (fun w' => w'.cell? ⟨wr.heap.size, 1, none⟩ = some (.int .i64 nn)) (first | go_keep | exact x1)
              (first
                | (go_at_call 14; refine (known_to _ B1 k1 f1 _ _ nn (hV4.keep0 ((Chg.refl _ _).drewN 1)) HQ.out).mono ?_; rintro e w5 ⟨rfl, hch5a⟩; have hch5 : Chg [] w4 w5 := ((Chg.refl _ _).drewN 1).trans hch5a (by simp); have x1 := (hs4.keep hch5 (by simp)).cell 1)
                | (go_at_call 20; refine (refOf_to _ B2 k2 f2 _ _ nn (hX4.keep0 hch5) HQ.out).mono ?_; rintro e w6 ⟨rfl, hch6a⟩; have hch6 := hch5.trans hch6a (by simp); have x1 := (hs4.keep hch6 (by simp)).cell 1)
                | (go_at_call 13; refine (stable_to _ B1 k1 f1 _ _ (hV4.keep0 hch6) hl1 HS.out).mono ?_; rintro e w7 ⟨rfl, hch7a⟩; have hch7 := hch6.trans hch7a (by simp); have x1 := (hs4.keep hch7 (by simp)).cell 1)
                | (go_at_call 21; refine (refStable_to _ B2 k2 f2 _ _ (hX4.keep0 hch7) hl1 HS.out).mono ?_; rintro e w8 ⟨rfl, hch8a⟩; have hch8 := hch7.trans hch8a (by simp); have x1 := (hs4.keep hch8 (by simp)).cell 1)
                | (go_at_call 22; refine (mark_to _ B1 k1 f1 _ _ (hV4.keep0 hch8) hl2 HM.out).mono ?_; rintro e w9 ⟨rfl, hch9a⟩; have hch9 := hch8.trans hch9a (by simp); have x1 := (hs4.keep hch9 (by simp)).cell 1)
                | (go_at_call 23; refine (refMark_to _ B2 k2 f2 _ _ (hX4.keep0 hch9) hl2 HM.out).mono ?_; rintro e w10 ⟨rfl, hch10a⟩; have hch10 := hch9.trans hch10a (by simp); have x1 := (hs4.keep hch10 (by simp)).cell 1))
            have hV5 := hV4.keep0 hch10
            have hX5 := hX4.keep0 hch10
            have ho5 := ho4.keep hch10 (by simp)
            have hp5 := hp4.keep hch10 (by simp)
            have hchy := hchz.trans hch10 (by simp)
            clear hV4 hX4 hs4 ho4 hp4 hchz hch5 hch5a hch6 hch6a hch7 hch7a hch8 hch8a hch9 hch9a hch10 hch10a x1 x2 x3
            obtain ⟨o0, o1, o2⟩ := ho5.st
            obtain ⟨p0, p1, p2⟩ := hp5.st
            go_wp2_with (fail)
            go_region_held3 (fun w' => w'.cell? ⟨N2, 0, none⟩ = some (.int .i64 om) ∧ w'.cell? ⟨N2, 1, none⟩ = some (.int .i64 oc) ∧ w'.cell? ⟨N2 + 1, 0, none⟩ = some (.int .i64 vm) ∧ w'.cell? ⟨N2 + 1, 1, none⟩ = some (.int .i64 vc)) (first | go_keep | exact ⟨g0, g1, g2, g3⟩)
              (first
                | (go_at_call 13; refine (stable_to _ B1 k1 f1 _ _ (hV5.keep0 ((Chg.refl _ _).drewN 1)) hl1 HS.out).mono ?_; rintro e w11 ⟨rfl, hch11a⟩; have hch11 : Chg [] w10 w11 := ((Chg.refl _ _).drewN 1).trans hch11a (by simp); have g0 := (ho5.keep hch11 (by simp)).cell 0; have g1 := (ho5.keep hch11 (by simp)).cell 1; have g2 := (hp5.keep hch11 (by simp)).cell 0; have g3 := (hp5.keep hch11 (by simp)).cell 1)
                | (go_at_call 9; first | (with_reducible refine (refCompare_to _ tm tc om oc c1 HC1.out).mono ?_) | (with_reducible refine (refCompare_to _ um uc vm vc c2 HC2.out).mono ?_)
                   first | (rintro e w12 ⟨rfl, hch12a⟩; have hch12 := hch11.trans hch12a (by simp); have g0 := (ho5.keep hch12 (by simp)).cell 0; have g1 := (ho5.keep hch12 (by simp)).cell 1; have g2 := (hp5.keep hch12 (by simp)).cell 0; have g3 := (hp5.keep hch12 (by simp)).cell 1; have tokA := trivial))
                | (go_at_call 22; refine (mark_to _ B1 k1 f1 _ _ (hV5.keep0 hch12) hl2 HM.out).mono ?_; rintro e w13 ⟨rfl, hch13a⟩; have hch11 := hch12.trans hch13a (by simp); have g0 := (ho5.keep hch11 (by simp)).cell 0; have g1 := (ho5.keep hch11 (by simp)).cell 1; have g2 := (hp5.keep hch11 (by simp)).cell 0; have g3 := (hp5.keep hch11 (by simp)).cell 1))
            go_wp2_with (first
              | (go_at_call 13; refine (stable_to _ B1 k1 f1 _ _ (hV5.keep0 hch12) hl1 HS.out).mono ?_; rintro e w14 ⟨rfl, hch14a⟩; have hch14 := hch12.trans hch14a (by simp))
              | (go_at_call 22; refine (mark_to _ B1 k1 f1 _ _ (hV5.keep0 hch14) hl2 HM.out).mono ?_; rintro e w15 ⟨rfl, hch15a⟩; have hch15 := hch14.trans hch15a (by simp); have ho15 := ho5.keep hch15 (by simp); have hp15 := hp5.keep hch15 (by simp); have i0 := ho15.cell 0; have i1 := ho15.cell 1; have i2 := ho15.free 0; have i3 := ho15.free 1; have i4 := hp15.cell 0; have i5 := hp15.cell 1; have i6 := hp15.free 0; have i7 := hp15.free 1))
            go_roundg (n - (k + 1))
            case rel =>
              refine ⟨k + 1, rfl, by omega, by go_num, ks2, fs, HKl, H2, ?_, ?_, ?_, ?_, ?_⟩
              · exact (hV5.keep0 hch15).keep (((Chg.refl [N2, N2 + 1] _).set2 (.inl (by simp)) _ _).set2 (.inl (by simp)) _ _) (by simp; omega) (by simp; omega) (by simp; omega)
              · exact (hX5.keep0 hch15).keep (((Chg.refl [N2, N2 + 1] _).set2 (.inl (by simp)) _ _).set2 (.inl (by simp)) _ _) (by simp; omega) (by simp; omega) (by simp; omega)
              · rw [HS.out]; exact (ho15.set2 _ _).keep ((Chg.refl [N2 + 1] _).set2 (.inl (by simp)) _ _) (by simp)
              · rw [HM.out]; exact (hp15.keep ((Chg.refl [N2] _).set2 (.inl (by simp)) _ _) (by simp)).set2 _ _
              · exact ((hchy.trans hch15 (by simp)).set2 (.inr (by omega)) _ _).set2 (.inr (by omega)) _ _
            case measure => have := Hg.out; omega
          · have hkd2 : (bits BinOp.and IntKind.i64 kd 1 == 1) = false := by simpa using hkd
            clear hkd
            obtain ⟨r, HR⟩ : ∃ r, Hid (raiseOk fs nn ⟨sm, sc⟩ = r) := ⟨_, rfl⟩
            obtain ⟨fs2, HK⟩ : ∃ l, Hid (raiseL fs nn ⟨sm, sc⟩ = l) := ⟨_, rfl⟩
            have HKl : Hid (fs2.length = np) := by unfold Hid; rw [← HK.out, raiseL_len]; exact H2.out
            obtain ⟨⟨qm, qc⟩, HQ⟩ : ∃ q, Hid (knownF ks nn = q) := ⟨_, rfl⟩
            obtain ⟨⟨tm, tc⟩, HS⟩ : ∃ q, Hid (minS ks = q) := ⟨_, rfl⟩
            obtain ⟨⟨um, uc⟩, HM⟩ : ∃ q, Hid (minS fs2 = q) := ⟨_, rfl⟩
            obtain ⟨c1, HC1⟩ : ∃ q, Hid (cmpS ⟨tm, tc⟩ ⟨om, oc⟩ = q) := ⟨_, rfl⟩
            obtain ⟨c2, HC2⟩ : ∃ q, Hid (cmpS ⟨um, uc⟩ ⟨vm, vc⟩ = q) := ⟨_, rfl⟩
            have hc1 : 0 ≤ c1 := by rw [← HC1.out, ← HS.out, ← HO.out]; have := (cmpS_eq (a := minS ks) (b := minS ks)).2 ⟨rfl, rfl⟩; omega
            have hc2 : 0 ≤ c2 := by rw [← HC2.out, ← HM.out, ← HP.out, ← HK.out]; exact minS_raise _ _ _
            have hd1 : decide (c1 < 0) = false := by simp; omega
            have hd2 : decide (c2 < 0) = false := by simp; omega
            have hl1 : ks.length ≤ 65536 := by have := H1.out; omega
            have hl2 : fs2.length ≤ 65536 := by have := HKl.out; omega
            go_wp2_with (fail)
            go_region_held3 (fun w' => w'.cell? ⟨wr.heap.size, 1, none⟩ = some (.int .i64 nn) ∧ w'.cell? ⟨wr.heap.size, 2, none⟩ = some (.int .i64 sm) ∧ w'.cell? ⟨wr.heap.size, 3, none⟩ = some (.int .i64 sc)) (first | go_keep | exact ⟨x1, x2, x3⟩)
              (first
                | (go_at_call 18; refine (floor_to _ B1 k1 f1 ks fs nn sm sc (hVs.keep0 ((Chg.refl _ _).drewN 1)) HR.out HK.out).mono ?_; rintro e w3 ⟨rfl, hV3, hch3⟩; have hX3 := (hXs.keep0 ((Chg.refl _ _).drewN 1)).keep hch3 (by simp; omega) (by simp; omega) (by simp; omega); have hs3 := (hs.drewN 1).keep hch3 (by simp; omega); have ho3 := (hos.drewN 1).keep hch3 (by simp; omega); have hp3 := (hps.drewN 1).keep hch3 (by simp; omega); have x1 := hs3.cell 1; have x2 := hs3.cell 2; have x3 := hs3.cell 3; have y1 := hs3.lt)
                | (go_at_call 19; refine (refFloor_to _ B2 k2 f2 ks fs nn sm sc hX3 HR.out HK.out).mono ?_; rintro e w4 ⟨rfl, hX4, hch4⟩; have hV4 := hV3.keep hch4 (by simp; omega) (by simp; omega) (by simp; omega); have hs4 := hs3.keep hch4 (by simp; omega); have ho4 := ho3.keep hch4 (by simp; omega); have hp4 := hp3.keep hch4 (by simp; omega); have x1 := hs4.cell 1; have x2 := hs4.cell 2; have x3 := hs4.cell 3))
            have hchz : Chg [] w w4 := (((hch.alloc _).drewN 1).trans hch3 (by simp; omega)).trans hch4 (by simp; omega)
            clear hV hX hVs hXs hs hos hps hV3 hX3 hs3 ho3 hp3 hch3 hch4 ho hp
            go_wp2_with (fail)
            go_region_held3 (fun w' => w'.cell? ⟨wr.heap.size, 1, none⟩ = some (.int .i64 nn)) (first | go_keep | exact x1)
              (first
                | (go_at_call 14; refine (known_to _ B1 k1 f1 _ _ nn (hV4.keep0 ((Chg.refl _ _).drewN 1)) HQ.out).mono ?_; rintro e w5 ⟨rfl, hch5a⟩; have hch5 : Chg [] w4 w5 := ((Chg.refl _ _).drewN 1).trans hch5a (by simp); have x1 := (hs4.keep hch5 (by simp)).cell 1)
                | (go_at_call 20; refine (refOf_to _ B2 k2 f2 _ _ nn (hX4.keep0 hch5) HQ.out).mono ?_; rintro e w6 ⟨rfl, hch6a⟩; have hch6 := hch5.trans hch6a (by simp); have x1 := (hs4.keep hch6 (by simp)).cell 1)
                | (go_at_call 13; refine (stable_to _ B1 k1 f1 _ _ (hV4.keep0 hch6) hl1 HS.out).mono ?_; rintro e w7 ⟨rfl, hch7a⟩; have hch7 := hch6.trans hch7a (by simp); have x1 := (hs4.keep hch7 (by simp)).cell 1)
                | (go_at_call 21; refine (refStable_to _ B2 k2 f2 _ _ (hX4.keep0 hch7) hl1 HS.out).mono ?_; rintro e w8 ⟨rfl, hch8a⟩; have hch8 := hch7.trans hch8a (by simp); have x1 := (hs4.keep hch8 (by simp)).cell 1)
                | (go_at_call 22; refine (mark_to _ B1 k1 f1 _ _ (hV4.keep0 hch8) hl2 HM.out).mono ?_; rintro e w9 ⟨rfl, hch9a⟩; have hch9 := hch8.trans hch9a (by simp); have x1 := (hs4.keep hch9 (by simp)).cell 1)
                | (go_at_call 23; refine (refMark_to _ B2 k2 f2 _ _ (hX4.keep0 hch9) hl2 HM.out).mono ?_; rintro e w10 ⟨rfl, hch10a⟩; have hch10 := hch9.trans hch10a (by simp); have x1 := (hs4.keep hch10 (by simp)).cell 1))
            have hV5 := hV4.keep0 hch10
            have hX5 := hX4.keep0 hch10
            have ho5 := ho4.keep hch10 (by simp)
            have hp5 := hp4.keep hch10 (by simp)
            have hchy := hchz.trans hch10 (by simp)
            clear hV4 hX4 hs4 ho4 hp4 hchz hch5 hch5a hch6 hch6a hch7 hch7a hch8 hch8a hch9 hch9a hch10 hch10a x1 x2 x3
            obtain ⟨o0, o1, o2⟩ := ho5.st
            obtain ⟨p0, p1, p2⟩ := hp5.st
            go_wp2_with (fail)
            go_region_held3 (fun w' => w'.cell? ⟨N2, 0, none⟩ = some (.int .i64 om) ∧ w'.cell? ⟨N2, 1, none⟩ = some (.int .i64 oc) ∧ w'.cell? ⟨N2 + 1, 0, none⟩ = some (.int .i64 vm) ∧ w'.cell? ⟨N2 + 1, 1, none⟩ = some (.int .i64 vc)) (first | go_keep | exact ⟨g0, g1, g2, g3⟩)
              (first
                | (go_at_call 13; refine (stable_to _ B1 k1 f1 _ _ (hV5.keep0 ((Chg.refl _ _).drewN 1)) hl1 HS.out).mono ?_; rintro e w11 ⟨rfl, hch11a⟩; have hch11 : Chg [] w10 w11 := ((Chg.refl _ _).drewN 1).trans hch11a (by simp); have g0 := (ho5.keep hch11 (by simp)).cell 0; have g1 := (ho5.keep hch11 (by simp)).cell 1; have g2 := (hp5.keep hch11 (by simp)).cell 0; have g3 := (hp5.keep hch11 (by simp)).cell 1)
                | (go_at_call 9; first | (with_reducible refine (refCompare_to _ tm tc om oc c1 HC1.out).mono ?_) | (with_reducible refine (refCompare_to _ um uc vm vc c2 HC2.out).mono ?_)
                   first | (rintro e w12 ⟨rfl, hch12a⟩; have hch12 := hch11.trans hch12a (by simp); have g0 := (ho5.keep hch12 (by simp)).cell 0; have g1 := (ho5.keep hch12 (by simp)).cell 1; have g2 := (hp5.keep hch12 (by simp)).cell 0; have g3 := (hp5.keep hch12 (by simp)).cell 1; have tokA := trivial))
                | (go_at_call 22; refine (mark_to _ B1 k1 f1 _ _ (hV5.keep0 hch12) hl2 HM.out).mono ?_; rintro e w13 ⟨rfl, hch13a⟩; have hch11 := hch12.trans hch13a (by simp); have g0 := (ho5.keep hch11 (by simp)).cell 0; have g1 := (ho5.keep hch11 (by simp)).cell 1; have g2 := (hp5.keep hch11 (by simp)).cell 0; have g3 := (hp5.keep hch11 (by simp)).cell 1))
            go_wp2_with (first
              | (go_at_call 13; refine (stable_to _ B1 k1 f1 _ _ (hV5.keep0 hch12) hl1 HS.out).mono ?_; rintro e w14 ⟨rfl, hch14a⟩; have hch14 := hch12.trans hch14a (by simp))
              | (go_at_call 22; refine (mark_to _ B1 k1 f1 _ _ (hV5.keep0 hch14) hl2 HM.out).mono ?_; rintro e w15 ⟨rfl, hch15a⟩; have hch15 := hch14.trans hch15a (by simp); have ho15 := ho5.keep hch15 (by simp); have hp15 := hp5.keep hch15 (by simp); have i0 := ho15.cell 0; have i1 := ho15.cell 1; have i2 := ho15.free 0; have i3 := ho15.free 1; have i4 := hp15.cell 0; have i5 := hp15.cell 1; have i6 := hp15.free 0; have i7 := hp15.free 1))
            go_roundg (n - (k + 1))
            case rel =>
              refine ⟨k + 1, rfl, by omega, by go_num, ks, fs2, H1, HKl, ?_, ?_, ?_, ?_, ?_⟩
              · exact (hV5.keep0 hch15).keep (((Chg.refl [N2, N2 + 1] _).set2 (.inl (by simp)) _ _).set2 (.inl (by simp)) _ _) (by simp; omega) (by simp; omega) (by simp; omega)
              · exact (hX5.keep0 hch15).keep (((Chg.refl [N2, N2 + 1] _).set2 (.inl (by simp)) _ _).set2 (.inl (by simp)) _ _) (by simp; omega) (by simp; omega) (by simp; omega)
              · rw [HS.out]; exact (ho15.set2 _ _).keep ((Chg.refl [N2 + 1] _).set2 (.inl (by simp)) _ _) (by simp)
              · rw [HM.out]; exact (hp15.keep ((Chg.refl [N2] _).set2 (.inl (by simp)) _ _) (by simp)).set2 _ _
              · exact ((hchy.trans hch15 (by simp)).set2 (.inr (by omega)) _ _).set2 (.inr (by omega)) _ _
            case measure => have := Hg.out; omega
        · obtain rfl : k = n := by omega
          go_wp2_with (go_at_call 10; refine (known_any _).mono ?_; rintro e w6 ⟨rfl, hch6⟩)
          go_ret
          exact ⟨rfl, hch.trans hch6 (by simp)⟩
end Go.Proofs.Ytdlpcdehmpkedaa
