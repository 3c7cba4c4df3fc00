/-
  VecStable: what is stable is known of all, and of one of them just that.
-/
import Derived.Test.YtdlpcdehmpkedaaVecPlays
import Derived.Test.YtdlpcdehmpkedaaSeenS
namespace Go.Proofs.Ytdlpcdehmpkedaa
open Go.RowKit
attribute [local go_sem ↓] Go.wp_at_zero Go.wp_at_succ
set_option linter.unusedVariables false

/-- What is known of a place that was told of once. -/
def wantS (s : St) : St := if isS s.m s.c = true ∧ 0 < cmpS s .z then s else .z
def wants (l : List St) (k : Nat) : List St := (l.take k).map wantS ++ List.replicate (l.length - k) .z
theorem wants_len (l : List St) {k : Nat} (h : k ≤ l.length) : (wants l k).length = l.length := by simp [wants]; omega
theorem wants_zero (l : List St) : wants l 0 = List.replicate l.length .z := by simp [wants]
theorem wants_all (l : List St) : wants l l.length = l.map wantS := by simp [wants]
theorem wants_step (l : List St) {k : Nat} (h : k < l.length) : raiseL (wants l k) (k : Int) l[k] = wants l (k + 1) := by
  have hlen := wants_len l (Nat.le_of_lt h)
  have hk : k < (wants l k).length := by omega
  have hg : (wants l k).getD k .z = .z := by
    rw [List.getD_eq_getElem?_getD]
    unfold wants
    rw [List.getElem?_append_right (by simp; omega)]
    simp only [List.length_map, List.length_take]
    rw [List.getElem?_replicate]
    split <;> rfl
  have hok : raiseOk (wants l k) (k : Int) l[k] = (isS l[k].m l[k].c && decide (0 < cmpS l[k] .z)) := by
    unfold raiseOk
    rw [Int.toNat_natCast, hg, decide_eq_true (show (0 : Int) ≤ (k : Int) ∧ (k : Int) < ((wants l k).length : Int) by omega), Bool.and_true]
  have hset : (wants l k).set k (wantS l[k]) = wants l (k + 1) := by
    have e1 : wants l k = (l.take k).map wantS ++ .z :: List.replicate (l.length - (k + 1)) .z := by
      unfold wants; rw [show l.length - k = (l.length - (k + 1)) + 1 by omega, List.replicate_succ]
    rw [e1, List.set_append_right _ _ (by simp; omega)]
    simp only [List.length_map, List.length_take]
    rw [show k - min k l.length = 0 by omega, List.set_cons_zero]
    unfold wants
    rw [List.take_succ_eq_append_getElem h, List.map_append, List.append_assoc]; rfl
  unfold raiseL
  rw [hok, Int.toNat_natCast]
  by_cases hw : isS l[k].m l[k].c = true ∧ 0 < cmpS l[k] .z
  · rw [if_pos (by rw [hw.1, decide_eq_true hw.2]; rfl), ← hset]
    unfold wantS; rw [if_pos hw]
  · rw [if_neg (by simpa using hw), ← hset]
    unfold wantS; rw [if_neg hw]
    symm
    rw [List.getD_eq_getElem?_getD, List.getElem?_eq_getElem hk] at hg
    simp only [Option.getD_some] at hg
    conv => lhs; rw [← hg]
    exact List.set_getElem_self hk
theorem knownF_map (l : List St) {k : Nat} (h : k < l.length) : knownF (l.map wantS) (k : Int) = wantS l[k] := by
  unfold knownF
  rw [if_pos (by simp; omega), Int.toNat_natCast, List.getD_eq_getElem?_getD, List.getElem?_map, List.getElem?_eq_getElem h]; rfl

set_option maxRecDepth 100000 in
set_option maxHeartbeats 6400000 in
theorem vecStable_walk (w : World) (A : Option Addr) (c : Nat) (l : List St) (hr : Rd w 2 A l.length (cS l)) (_ : l.length ≤ c) (_ : c ≤ maxLen) (_ : ∀ s ∈ l, s.wf) :
    Calls Try.prog 4 #[.slice A l.length c] w fun e w' => e = .returned (.bool true) ∧ Chg [] w w' := by
  by_cases h0 : l.length < 1
  · have h0' : (l.length : Int) < 1 := by omega
    go_enter Try.func4, Try.ntmps4
    go_wp2_with (go_at_call 10; refine (known_any _).mono ?_; rintro e w6 ⟨rfl, hch6⟩)
    go_ret
    exact ⟨rfl, hch6⟩
  · have h1 : 1 ≤ l.length := by omega
    clear h0
    by_cases h5 : 5 < l.length
    · go_enter Try.func4, Try.ntmps4
      go_wp2_with (go_at_call 10; refine (known_any _).mono ?_; rintro e w6 ⟨rfl, hch6⟩)
      go_ret
      exact ⟨rfl, hch6⟩
    · have h5' : l.length ≤ 5 := by omega
      clear h5
      go_enter Try.func4, Try.ntmps4
      go_wp2_with (fail)
      refine (new_yes _ (l.length : Int) (by omega) (by omega)).mono ?_
      rw [Int.toNat_natCast]
      rintro e w1 ⟨B, k, f, rfl, hV1, a1, a2, a3, hch1⟩
      rw [← wants_zero] at hV1
      obtain ⟨fs, HFS⟩ : ∃ fs, Hid (wants l 0 = fs) := ⟨_, rfl⟩
      have HV1 : Hid (VecAt w1 45 B k f (wants l 0) fs) := by unfold Hid; rw [← HFS.out]; exact hV1
      clear hV1
      go_wp2_with (fail)
      go_loopg [5] l.length (fun g i wr => ∃ j : Nat, g = l.length - j ∧ j ≤ l.length ∧ i = .int .i64 j ∧ Hid (VecAt wr 45 B k f (wants l j) fs) ∧ Chg [] w wr)
      case atStart => exact ⟨0, rfl, Nat.zero_le _, rfl, HV1, hch1⟩
      case round =>
        clear HV1 hch1
        obtain ⟨j, hg, hj, rfl, HV, hch⟩ := hrel
        have Hg := Lib.hid hg
        clear hg
        by_cases hlt : j < l.length
        · obtain ⟨ad, rfl, had, hc0, hc1⟩ := (hr.keep0 hch).getS hlt
          have HK := Lib.hid (wants_step l hlt)
          generalize l[j] = s at *
          obtain ⟨sm, sc⟩ := s
          simp only at hc0 hc1
          obtain ⟨r, HR⟩ : ∃ r, Hid (raiseOk (wants l j) (j : Int) ⟨sm, sc⟩ = r) := ⟨_, rfl⟩
          have hkl := At.lt HV.out.ks_
          go_wp2_with (fail)
          refine (reach_to _ B k f (wants l j) fs (j : Int) sm sc HV.out HR.out HK.out).mono ?_
          rintro e w3 ⟨rfl, hV3, hch3⟩
          have HV3 := Lib.hid hV3
          clear hV3
          go_wp2_with (fail)
          go_roundg (l.length - (j + 1))
          case rel => exact ⟨j + 1, rfl, by omega, by go_num, HV3, hch.trans hch3 (by simp; omega)⟩
          case measure => have := Hg.out; omega
        · obtain rfl : j = l.length := by omega
          obtain ⟨ks, HKS⟩ : ∃ ks, Hid (wants l l.length = ks) := ⟨_, rfl⟩
          have hV := HV.out
          rw [HKS.out] at hV
          have HKM : Hid (l.map wantS = ks) := by unfold Hid; rw [← wants_all, HKS.out]
          have hkl : ks.length = l.length := by rw [← HKM.out]; simp
          have HKL := Lib.hid hkl
          have hkl5 : ks.length ≤ 65536 := by omega
          obtain ⟨⟨Mm, Mc⟩, HM⟩ : ∃ M, Hid (minS ks = M) := ⟨_, rfl⟩
          have HSP := Lib.hid (minS_spec ks)
          rw [HM.out] at HSP
          have Hfin := Lib.hid (seenB_all ks ⟨Mm, Mc⟩ (fun h => by obtain ⟨s, h1, h2⟩ := HSP.out.1 h; exact ⟨s, h1, h2⟩))
          have HB0 : Hid (false = seenB ks ⟨Mm, Mc⟩ 0) := by unfold Hid; rw [seenB_zero]; symm; simp; intro h; rw [h] at hkl; simp at hkl; omega
          clear hkl
          go_wp2_with (fail)
          refine (stable_to _ B k f ks fs hV hkl5 HM.out).mono ?_
          rintro e w4 ⟨rfl, hch4⟩
          have hV4 := (hV.keep0 hch4).keep0 ((Chg.refl [] _).alloc (.cells #[.int .i64 Mm, .int .i64 Mc] 24))
          have hg4 := At.new w4 24 #[.int .i64 Mm, .int .i64 Mc]
          have hch5 := (hch.trans hch4 (by simp)).alloc (.cells #[.int .i64 Mm, .int .i64 Mc] 24)
          obtain ⟨G, HG⟩ : ∃ G, Hid (w4.heap.size = G) := ⟨_, rfl⟩
          have hGk := At.lt (hV.keep0 hch4).ks_
          have hGf := At.lt (hV.keep0 hch4).fs_
          have hGB := (hV.keep0 hch4).at_.lt
          have hwG : w.heap.size ≤ w4.heap.size := (hch.trans hch4 (by simp)).size
          go_wp2_with (fail)
          rw [HG.out] at hg4 hGk hGf hGB hwG ⊢
          go_loopg [8, 7] l.length (fun g i v wr => ∃ (j : Nat) (b : Bool), g = l.length - j ∧ j ≤ l.length ∧ i = .int .i64 j ∧ v = .bool b ∧ Hid (b = seenB ks ⟨Mm, Mc⟩ j) ∧ VecAt wr 45 B k f ks fs ∧ At wr G 24 #[.int .i64 Mm, .int .i64 Mc] ∧ Chg [] w wr)
          case atStart => exact ⟨0, false, rfl, Nat.zero_le _, rfl, rfl, HB0, hV4, hg4, hch5⟩
          case round =>
            clear hch hV HV hV4 hg4 hch5 hch4 HB0 Hg
            obtain ⟨i, b, hgi, hil, rfl, rfl, HB, hV, hg, hch⟩ := hrel
            have Hg := Lib.hid hgi
            clear hgi
            have hgl := hg.lt
            by_cases hlt : i < l.length
            · obtain ⟨ad, rfl, had, hc0, hc1⟩ := (hr.keep0 hch).getS hlt
              have hik : i < ks.length := by rw [HKL.out]; exact hlt
              have HQ0 := Lib.hid (knownF_map l hlt)
              rw [HKM.out] at HQ0
              have HN := Lib.hid (seenB_succ ks ⟨Mm, Mc⟩ hik)
              have HKi : Hid (ks[i] = wantS l[i]) := by
                unfold Hid; have h := HKM.out; subst h; simp
              have HLe := Lib.hid (HSP.out.2 _ (List.getElem_mem hik))
              rw [HKi.out] at HN HLe
              generalize l[i] = s at *
              clear HKi
              obtain ⟨sm, sc⟩ := s
              simp only at hc0 hc1
              obtain ⟨⟨qm, qc⟩, HW⟩ : ∃ q, Hid (wantS ⟨sm, sc⟩ = q) := ⟨_, rfl⟩
              rw [HW.out] at HN HLe HQ0
              have HQ := HQ0
              obtain ⟨cz, HC⟩ : ∃ q, Hid (cmpS ⟨sm, sc⟩ ⟨0, 0⟩ = q) := ⟨_, rfl⟩
              obtain ⟨cs, HE⟩ : ∃ q, Hid (cmpS ⟨Mm, Mc⟩ ⟨qm, qc⟩ = q) := ⟨_, rfl⟩
              have hcs : cs ≤ 0 := by have h := HLe.out; rw [cmpS_neg, HE.out] at h; omega
              have hcs2 : decide (0 < cs) = false := by simp; omega
              have hb4 : ∃ b2 : Bool, Hid (b2 = seenB ks ⟨Mm, Mc⟩ (i + 1)) ∧ ((b = true ∧ b2 = true) ∨ (b = false ∧ b2 = true ∧ qm = Mm ∧ qc = Mc) ∨ (b = false ∧ b2 = false ∧ (qm == Mm) = false) ∨ (b = false ∧ b2 = false ∧ (qm == Mm) = true ∧ (qc == Mc) = false)) := by
                refine ⟨(b || St.eqB ⟨qm, qc⟩ ⟨Mm, Mc⟩), by unfold Hid; rw [HN.out, HB.out], ?_⟩
                cases b
                · unfold St.eqB
                  simp only [Bool.false_or]
                  cases e1 : (qm == Mm)
                  · exact .inr (.inr (.inl ⟨by simp, by simp, by simp⟩))
                  · cases e2 : (qc == Mc)
                    · exact .inr (.inr (.inr ⟨by simp, by simp, by simp, by simp⟩))
                    · exact .inr (.inl ⟨by simp, by simp, by simpa using e1, by simpa using e2⟩)
                · exact .inl ⟨by simp, by simp⟩
              obtain ⟨b2, hnb2, hb4⟩ := hb4
              clear HN HLe HB
              by_cases hs : isS sm sc = true
              · have HS := Lib.hid hs
                by_cases hcp : 0 < cz
                · have hw : (⟨qm, qc⟩ : St) = ⟨sm, sc⟩ := by rw [← HW.out]; unfold wantS; exact if_pos ⟨hs, by rw [show St.z = ⟨0, 0⟩ from rfl, HC.out]; exact hcp⟩
                  injection hw with e1 e2
                  subst e1 e2
                  have hcz : decide (cz ≤ 0) = false := by simp; omega
                  clear hs hcp
                  rcases hb4 with ⟨rfl, rfl⟩ | ⟨rfl, rfl, rfl, rfl⟩ | ⟨rfl, rfl, hx1⟩ | ⟨rfl, rfl, hx1, hx2⟩
                  all_goals
                    go_wp2_with (fail)
                    refine (known_to _ B k f ks fs (i : Int) hV HQ.out).mono ?_
                    rintro e w3 ⟨rfl, hch3⟩
                    have hsz3 := hch3.size
                    have hk3 := At.new w3 24 #[.int .i64 qm, .int .i64 qc]
                    have hq4 : At ((w3.alloc (.cells #[.int .i64 qm, .int .i64 qc] 24)).alloc (.cells #[.int .i64 qm, .int .i64 qc] 24)) (w3.heap.size + 1) 24 #[.int .i64 qm, .int .i64 qc] := by simpa using At.new (w3.alloc (.cells #[.int .i64 qm, .int .i64 qc] 24)) 24 #[.int .i64 qm, .int .i64 qc]
                    have hk4 := hk3.keep ((Chg.refl [] _).alloc (.cells #[.int .i64 qm, .int .i64 qc] 24)) (by simp)
                    have hg4 := hg.keep (((Chg.refl [] wr).trans hch3 (by simp)).alloc (.cells #[.int .i64 qm, .int .i64 qc] 24) |>.alloc (.cells #[.int .i64 qm, .int .i64 qc] 24)) (by simp)
                    have hd0 := (hch3.cell (p := ad.add (i * 2)) (by rw [add_block]; exact had) (by simp)).trans hc0
                    have hd1 := (hch3.cell (p := ⟨(ad.add (i * 2)).block, (ad.add (i * 2)).off + 1, none⟩) (by rw [add_block]; exact had) (by simp)).trans hc1
                    have hd2 : ad.block < w3.heap.size := Nat.lt_of_lt_of_le had hch3.size
                    have he0 := ((Chg.refl [] w3).alloc (.cells #[.int .i64 qm, .int .i64 qc] 24) |>.cell (p := ad.add (i * 2)) (by rw [add_block]; exact hd2) (by simp)).trans hd0
                    have he1 := ((Chg.refl [] w3).alloc (.cells #[.int .i64 qm, .int .i64 qc] 24) |>.cell (p := ⟨(ad.add (i * 2)).block, (ad.add (i * 2)).off + 1, none⟩) (by rw [add_block]; exact hd2) (by simp)).trans hd1
                    go_wp2_with (fail)
                    refine (refIs_yes _ _ _ HS.out).mono ?_
                    rintro e w5 ⟨rfl, hch5⟩
                    have hk5 := hk4.keep hch5 (by simp)
                    have hq5 := hq4.keep hch5 (by simp)
                    have hg5 := hg4.keep hch5 (by simp)
                    obtain ⟨x0, x1, x2⟩ := hk5.st
                    obtain ⟨y0, y1, y2⟩ := hq5.st
                    obtain ⟨z0, z1, z2⟩ := hg5.st
                    have y3 := hq5.free 0
                    have y4 := hq5.free 1
                    have hchz : Chg [] w w5 := (((hch.trans hch3 (by simp)).alloc _).alloc _).trans hch5 (by simp)
                    go_wp2_with (fail)
                    refine (refCompare_to _ _ _ _ _ cz HC.out).mono ?_
                    rintro e w6 ⟨rfl, hch6⟩
                    have hk6 := hk5.keep hch6 (by simp)
                    have hq6 := hq5.keep hch6 (by simp)
                    have hg6 := hg5.keep hch6 (by simp)
                    obtain ⟨x0, x1, x2⟩ := hk6.st
                    obtain ⟨y0, y1, y2⟩ := hq6.st
                    obtain ⟨z0, z1, z2⟩ := hg6.st
                    have y3 := hq6.free 0
                    have y4 := hq6.free 1
                    have hchy := hchz.trans hch6 (by simp)
                    go_wp2_with (fail)
                    refine (refCompare_to _ _ _ _ _ cs HE.out).mono ?_
                    rintro e w7 ⟨rfl, hch7⟩
                    go_wp2_with (fail)
                    go_roundg (l.length - (i + 1))
                    case rel => exact ⟨i + 1, _, rfl, by omega, by go_num, rfl, hnb2, hV.keep0 (((((Chg.refl [] wr).trans hch3 (by simp)).alloc _).alloc _).trans hch5 (by simp) |>.trans hch6 (by simp) |>.trans hch7 (by simp)), hg6.keep hch7 (by simp), hchy.trans hch7 (by simp)⟩
                    case measure => have := Hg.out; omega
                · have hw : (⟨qm, qc⟩ : St) = ⟨0, 0⟩ := by rw [← HW.out]; unfold wantS; exact if_neg (fun h => hcp (by have h2 := h.2; rw [show St.z = ⟨0, 0⟩ from rfl, HC.out] at h2; exact h2))
                  injection hw with e1 e2
                  subst e1 e2
                  have hcz : decide (cz ≤ 0) = true := by simp; omega
                  clear hs hcp
                  rcases hb4 with ⟨rfl, rfl⟩ | ⟨rfl, rfl, rfl, rfl⟩ | ⟨rfl, rfl, hx1⟩ | ⟨rfl, rfl, hx1, hx2⟩
                  all_goals
                    go_wp2_with (fail)
                    refine (known_to _ B k f ks fs (i : Int) hV HQ.out).mono ?_
                    rintro e w3 ⟨rfl, hch3⟩
                    have hsz3 := hch3.size
                    have hk3 := At.new w3 24 #[.int .i64 0, .int .i64 0]
                    have hq4 : At ((w3.alloc (.cells #[.int .i64 0, .int .i64 0] 24)).alloc (.cells #[.int .i64 sm, .int .i64 sc] 24)) (w3.heap.size + 1) 24 #[.int .i64 sm, .int .i64 sc] := by simpa using At.new (w3.alloc (.cells #[.int .i64 0, .int .i64 0] 24)) 24 #[.int .i64 sm, .int .i64 sc]
                    have hk4 := hk3.keep ((Chg.refl [] _).alloc (.cells #[.int .i64 sm, .int .i64 sc] 24)) (by simp)
                    have hg4 := hg.keep (((Chg.refl [] wr).trans hch3 (by simp)).alloc (.cells #[.int .i64 0, .int .i64 0] 24) |>.alloc (.cells #[.int .i64 sm, .int .i64 sc] 24)) (by simp)
                    have hd0 := (hch3.cell (p := ad.add (i * 2)) (by rw [add_block]; exact had) (by simp)).trans hc0
                    have hd1 := (hch3.cell (p := ⟨(ad.add (i * 2)).block, (ad.add (i * 2)).off + 1, none⟩) (by rw [add_block]; exact had) (by simp)).trans hc1
                    have hd2 : ad.block < w3.heap.size := Nat.lt_of_lt_of_le had hch3.size
                    have he0 := ((Chg.refl [] w3).alloc (.cells #[.int .i64 0, .int .i64 0] 24) |>.cell (p := ad.add (i * 2)) (by rw [add_block]; exact hd2) (by simp)).trans hd0
                    have he1 := ((Chg.refl [] w3).alloc (.cells #[.int .i64 0, .int .i64 0] 24) |>.cell (p := ⟨(ad.add (i * 2)).block, (ad.add (i * 2)).off + 1, none⟩) (by rw [add_block]; exact hd2) (by simp)).trans hd1
                    go_wp2_with (fail)
                    refine (refIs_yes _ _ _ HS.out).mono ?_
                    rintro e w5 ⟨rfl, hch5⟩
                    have hk5 := hk4.keep hch5 (by simp)
                    have hq5 := hq4.keep hch5 (by simp)
                    have hg5 := hg4.keep hch5 (by simp)
                    obtain ⟨x0, x1, x2⟩ := hk5.st
                    obtain ⟨y0, y1, y2⟩ := hq5.st
                    obtain ⟨z0, z1, z2⟩ := hg5.st
                    have y3 := hq5.free 0
                    have y4 := hq5.free 1
                    have hchz : Chg [] w w5 := (((hch.trans hch3 (by simp)).alloc _).alloc _).trans hch5 (by simp)
                    go_wp2_with (fail)
                    refine (refCompare_to _ _ _ _ _ cz HC.out).mono ?_
                    rintro e w6 ⟨rfl, hch6⟩
                    have hk6 := hk5.keep hch6 (by simp)
                    have hq6 := hq5.keep hch6 (by simp)
                    have hg6 := hg5.keep hch6 (by simp)
                    obtain ⟨x0, x1, x2⟩ := hk6.st
                    obtain ⟨y0, y1, y2⟩ := hq6.st
                    obtain ⟨z0, z1, z2⟩ := hg6.st
                    have y3 := hq6.free 0
                    have y4 := hq6.free 1
                    have hchy := hchz.trans hch6 (by simp)
                    go_wp2_with (fail)
                    refine (refCompare_to _ _ _ _ _ cs HE.out).mono ?_
                    rintro e w7 ⟨rfl, hch7⟩
                    go_wp2_with (fail)
                    go_roundg (l.length - (i + 1))
                    case rel => exact ⟨i + 1, _, rfl, by omega, by go_num, rfl, hnb2, (hV.keep0 (((((Chg.refl [] wr).trans hch3 (by simp)).alloc _).alloc _).trans hch5 (by simp) |>.trans hch6 (by simp))).keep (((Chg.refl [w3.heap.size + 1] _).set2 (.inl (by simp)) _ _).trans hch7 (by simp)) (by simp; omega) (by simp; omega) (by simp; omega), (hg6.keep ((Chg.refl [w3.heap.size + 1] _).set2 (.inl (by simp)) _ _) (by simp; omega)).keep hch7 (by simp), (hchy.set2 (.inr (by omega)) _ _).trans hch7 (by simp)⟩
                    case measure => have := Hg.out; omega
              · have hs' : isS sm sc = false := by simpa using hs
                have hw : (⟨qm, qc⟩ : St) = ⟨0, 0⟩ := by rw [← HW.out]; unfold wantS; exact if_neg (fun h => hs h.1)
                injection hw with e1 e2
                subst e1 e2
                have HS := Lib.hid hs'
                clear hs hs'
                rcases hb4 with ⟨rfl, rfl⟩ | ⟨rfl, rfl, rfl, rfl⟩ | ⟨rfl, rfl, hx1⟩ | ⟨rfl, rfl, hx1, hx2⟩
                all_goals
                  go_wp2_with (fail)
                  refine (known_to _ B k f ks fs (i : Int) hV HQ.out).mono ?_
                  rintro e w3 ⟨rfl, hch3⟩
                  have hsz3 := hch3.size
                  have hk3 := At.new w3 24 #[.int .i64 0, .int .i64 0]
                  have hq4 : At ((w3.alloc (.cells #[.int .i64 0, .int .i64 0] 24)).alloc (.cells #[.int .i64 sm, .int .i64 sc] 24)) (w3.heap.size + 1) 24 #[.int .i64 sm, .int .i64 sc] := by simpa using At.new (w3.alloc (.cells #[.int .i64 0, .int .i64 0] 24)) 24 #[.int .i64 sm, .int .i64 sc]
                  have hk4 := hk3.keep ((Chg.refl [] _).alloc (.cells #[.int .i64 sm, .int .i64 sc] 24)) (by simp)
                  have hg4 := hg.keep (((Chg.refl [] wr).trans hch3 (by simp)).alloc (.cells #[.int .i64 0, .int .i64 0] 24) |>.alloc (.cells #[.int .i64 sm, .int .i64 sc] 24)) (by simp)
                  have hd0 := (hch3.cell (p := ad.add (i * 2)) (by rw [add_block]; exact had) (by simp)).trans hc0
                  have hd1 := (hch3.cell (p := ⟨(ad.add (i * 2)).block, (ad.add (i * 2)).off + 1, none⟩) (by rw [add_block]; exact had) (by simp)).trans hc1
                  have hd2 : ad.block < w3.heap.size := Nat.lt_of_lt_of_le had hch3.size
                  have he0 := ((Chg.refl [] w3).alloc (.cells #[.int .i64 0, .int .i64 0] 24) |>.cell (p := ad.add (i * 2)) (by rw [add_block]; exact hd2) (by simp)).trans hd0
                  have he1 := ((Chg.refl [] w3).alloc (.cells #[.int .i64 0, .int .i64 0] 24) |>.cell (p := ⟨(ad.add (i * 2)).block, (ad.add (i * 2)).off + 1, none⟩) (by rw [add_block]; exact hd2) (by simp)).trans hd1
                  go_wp2_with (fail)
                  refine (refIs_no _ _ _ HS.out).mono ?_
                  rintro e w5 ⟨rfl, hch5⟩
                  have hk5 := hk4.keep hch5 (by simp)
                  have hq5 := hq4.keep hch5 (by simp)
                  have hg5 := hg4.keep hch5 (by simp)
                  obtain ⟨x0, x1, x2⟩ := hk5.st
                  obtain ⟨y0, y1, y2⟩ := hq5.st
                  obtain ⟨z0, z1, z2⟩ := hg5.st
                  have y3 := hq5.free 0
                  have y4 := hq5.free 1
                  have hchz : Chg [] w w5 := (((hch.trans hch3 (by simp)).alloc _).alloc _).trans hch5 (by simp)
                  have hk6 := hk5
                  have hq6 := hq5
                  have hg6 := hg5
                  have hchy := hchz
                  go_wp2_with (fail)
                  refine (refCompare_to _ _ _ _ _ cs HE.out).mono ?_
                  rintro e w7 ⟨rfl, hch7⟩
                  go_wp2_with (fail)
                  go_roundg (l.length - (i + 1))
                  case rel => exact ⟨i + 1, _, rfl, by omega, by go_num, rfl, hnb2, (hV.keep0 (((((Chg.refl [] wr).trans hch3 (by simp)).alloc _).alloc _).trans hch5 (by simp))).keep (((Chg.refl [w3.heap.size + 1] _).set2 (.inl (by simp)) _ _).trans hch7 (by simp)) (by simp; omega) (by simp; omega) (by simp; omega), (hg6.keep ((Chg.refl [w3.heap.size + 1] _).set2 (.inl (by simp)) _ _) (by simp; omega)).keep hch7 (by simp), (hchy.set2 (.inr (by omega)) _ _).trans hch7 (by simp)⟩
                  case measure => have := Hg.out; omega
            · obtain rfl : i = l.length := by omega
              have hb : b = true := by rw [HB.out, ← HKL.out, Hfin.out]
              subst hb
              go_wp2_with (go_at_call 10; refine (known_any _).mono ?_; rintro e w6 ⟨rfl, hch6⟩)
              go_ret
              exact ⟨rfl, hch.trans hch6 (by simp)⟩
end Go.Proofs.Ytdlpcdehmpkedaa
