
/-
  Several texts in one: FraD, FraD2, FraS.
-/
import Derived.Test.YtkdbjhmffnjimaaFraE
import Derived.Test.YtkdbjhmffnjimaaMBase
import Derived.Deep.RegionHeld3
import Derived.Deep.DeepCutAuto
import Derived.Deep.CutBlock
import Derived.IntWalk
namespace Go.Proofs.Ytkdbjhmffnjimaa
open Go.RowKit
set_option linter.unusedVariables false

def DecFPost (w : World) (t : Took) (e : Ending) (w' : World) : Prop := ∃ A c, e = .returned (.tuple #[.slice A t.p.length c, .int .i64 t.n, .int .i64 t.e]) ∧ w'.ownsRow w.heap.size 5 1 (.slice A t.p.length c) t.p.length (cB t.p) ∧ Chg [] w w'
theorem DecFPost.bad {w w' : World} {t : Took} (n : Nat) (ht : t = ⟨[], 0, n⟩) (h : Chg [] w w') : DecFPost w t (.returned (.tuple #[.slice none 0 0, .int .i64 0, .int .i64 n])) w' := by
  subst ht
  exact ⟨none, 0, rfl, own_none _ _ _ _, h⟩
theorem decF_e4 {L : List UInt8} (h : 8 ≤ L.length) (h2 : L.take 8 ≠ headF (ofFour L)) : decF L = ⟨[], 0, 4⟩ := by unfold decF; rw [if_neg (by omega), if_pos h2]
theorem decF_e5 {L : List UInt8} (h : 8 ≤ L.length) (h2 : L.take 8 = headF (ofFour L)) (h3 : 262144 < ofFour L) : decF L = ⟨[], 0, 5⟩ := by unfold decF; rw [if_neg (by omega), if_neg (by simpa using h2), if_pos h3]
theorem decF_e2' {L : List UInt8} (h : 8 ≤ L.length) (h2 : L.take 8 = headF (ofFour L)) (h3 : ofFour L ≤ 262144) (h4 : L.length < 12 + ofFour L) : decF L = ⟨[], 0, 2⟩ := by unfold decF; rw [if_neg (by omega), if_neg (by simpa using h2), if_neg (by omega), if_pos h4]
theorem decF_e4' {L : List UInt8} (h2 : L.take 8 = headF (ofFour L)) (h3 : ofFour L ≤ 262144) (h4 : 12 + ofFour L ≤ L.length) (h5 : ofFour (L.drop (8 + ofFour L)) ≠ crc (L.take (8 + ofFour L))) : decF L = ⟨[], 0, 4⟩ := by unfold decF; rw [if_neg (by omega), if_neg (by simpa using h2), if_neg (by omega), if_neg (by omega), if_pos h5]

theorem equal_to (w : World) (A B : Option Addr) (n m c d : Nat) (xs ys : List UInt8) (s : Bool) (hs : decide (xs = ys) = s) (hn : xs.length = n) (hm : ys.length = m) (hx : Rd w 1 A xs.length (cB xs)) (hy : Rd w 1 B ys.length (cB ys)) :
    Calls Try.prog 39 #[.slice A n c, .slice B m d] w fun e w' => e = .returned (.bool s) ∧ w = w' := by
  subst hs
  exact equal_any w A B n m c d xs ys hn hm hx hy
set_option maxRecDepth 100000 in
set_option maxHeartbeats 1600000 in
theorem frDecode_any (w : World) (A : Option Addr) (n c : Nat) (L : List UInt8) (hn : L.length = n) (hr : Rd w 1 A L.length (cB L)) (hc : L.length ≤ c) (hl : L.length ≤ 1099511627776) :
    Calls Try.prog 62 #[.slice A n c] w (DecFPost w (decF L)) := by
  subst hn
  have HR := Lib.hid hr
  clear hr
  obtain ⟨i0, hi, hz0, hz1, hz2⟩ := info_parts info8
  obtain ⟨t, ht⟩ : ∃ t, Hid (decF L = t) := ⟨_, rfl⟩
  rw [ht.out]
  by_cases h8 : L.length < 8
  · go_enter Try.func62, Try.ntmps62
    go_wp2_with (fail)
    go_ret3
    exact DecFPost.bad 2 (ht.out.symm.trans (decF_e2 h8)) (Chg.refl _ _)
  · have h8' : 8 ≤ L.length := by omega
    have r8 := Lib.hid (HR.out.takeB (k := 8) (by omega))
    have l8 : Hid ((L.take 8).length = 8) := by unfold Hid; rw [List.length_take]; omega
    have s8 := fun w => run_slice_hi (P := Try.prog) w Try.underlying28 hi A L.length c 8 8 rfl (by omega)
    have hF := ofFour_lt L
    obtain ⟨v, hv⟩ : ∃ v, Hid (ofFour L = v) := ⟨_, rfl⟩
    rw [hv.out] at hF
    by_cases hh : L.take 8 = headF (ofFour L)
    · have hd : Hid (decide (L.take 8 = headF v) = true) := by unfold Hid; rw [← hv.out]; exact decide_eq_true hh
      have Hh := Lib.hid hh
      clear hh h8
      go_enter Try.func62, Try.ntmps62
      go_wp2_with (fail)
      refine (fromFour_any _ _ _ c L rfl HR.out (by omega) hl).mono ?_
      rw [hv.out]
      rintro e w1 ⟨rfl, hch1⟩
      go_upto_region 5 with (fail)
      go_cut [12] (fun s5 wx => s5 = .bool false ∧ Chg [] w1 wx)
      case first =>
        go_region_held3 (fun _ => True) (first | trivial | fail)
          (first
            | (go_simp; go_at_call 52; (with_reducible refine (headOf_any _ v hF).mono ?_); rintro e w2 ⟨A2, c2, rfl, r2, _, hch2⟩; have hch12 : Hid (Chg [] w1 w2) := ((by repeat' (first | (with_reducible assumption) | (with_reducible exact Chg.refl _ _) | (with_reducible refine Chg.alloc ?_ _) | (with_reducible refine Chg.drewN ?_ _) | (with_reducible refine Chg.drew ?_) | (with_reducible refine Chg.strW ?_ _ _) | (with_reducible refine Chg.t0 ?_ (by with_reducible assumption)))) : Chg [] w1 w2))
            | (go_simp; go_at_call 39; (with_reducible refine (equal_to _ A A2 8 8 c c2 (L.take 8) (headF v) true hd.out l8.out (headF_len v) (Rd.k0 r8.out (hch1.trans (show Chg [] w1 _ from (by repeat' (first | (with_reducible assumption) | (with_reducible exact Chg.refl _ _) | (with_reducible refine Chg.alloc ?_ _) | (with_reducible refine Chg.drewN ?_ _) | (with_reducible refine Chg.drew ?_) | (with_reducible refine Chg.strW ?_ _ _) | (with_reducible refine Chg.t0 ?_ (by with_reducible assumption))))) (by simp))) (by rw [headF_len]; exact Rd.k0 r2 (by repeat' (first | (with_reducible assumption) | (with_reducible exact Chg.refl _ _) | (with_reducible refine Chg.alloc ?_ _) | (with_reducible refine Chg.drewN ?_ _) | (with_reducible refine Chg.drew ?_) | (with_reducible refine Chg.strW ?_ _ _) | (with_reducible refine Chg.t0 ?_ (by with_reducible assumption)))))).mono ?_); rintro e w3 ⟨rfl, rfl⟩))
        all_goals
          go_wp2_with (fail)
          go_meet
          exact ⟨rfl, (by repeat' (first | (with_reducible assumption) | (with_reducible exact Chg.refl _ _) | (with_reducible refine Chg.alloc ?_ _) | (with_reducible refine Chg.drewN ?_ _) | (with_reducible refine Chg.drew ?_) | (with_reducible refine Chg.strW ?_ _ _) | (with_reducible refine Chg.t0 ?_ (by with_reducible assumption))))⟩
      case rest =>
        obtain ⟨rfl, hchc⟩ := hcut
        have hch := hch1.trans hchc (by simp)
        by_cases hv5 : 262144 < v
        · go_wp2_with (fail)
          go_ret3
          exact DecFPost.bad 5 (ht.out.symm.trans (decF_e5 h8' Hh.out (by rw [hv.out]; exact hv5))) hch
        · by_cases hln : L.length < 12 + v
          · go_wp2_with (fail)
            go_ret3
            exact DecFPost.bad 2 (ht.out.symm.trans (decF_e2' h8' Hh.out (by rw [hv.out]; omega) (by rw [hv.out]; exact hln))) hch
          · have sW := fun w => run_slice_hi (P := Try.prog) w Try.underlying28 hi A L.length c (8 + (v : Int)) (8 + v) (by omega) (by omega)
            have sT := fun w => run_slice_lo (P := Try.prog) w Try.underlying28 hi hz1 A L.length c (8 + (v : Int)) (8 + v) (by omega) (by omega)
            have rT := Lib.hid (HR.out.dropB (k := 8 + v) (c := c) (by omega) hc)
            have rW := Lib.hid (HR.out.takeB (k := 8 + v) (by omega))
            have lT : Hid ((L.drop (8 + v)).length = L.length - (8 + v)) := by unfold Hid; rw [List.length_drop]
            have lW : Hid ((L.take (8 + v)).length = 8 + v) := by unfold Hid; rw [List.length_take]; omega
            have hsz := hch.size
            go_wp2_with (fail)
            refine (fromFour_any _ _ _ _ (L.drop (8 + v)) lT.out (rT.out.keep0 hch) (by rw [lT.out]; omega) (by rw [lT.out]; omega)).mono ?_
            rintro e w4 ⟨rfl, hch4⟩
            have hch04 := hch.trans hch4 (by simp)
            go_wp2_with (fail)
            refine (sum_to _ _ _ _ [⟨A, c, L.take (8 + v)⟩] (L.take (8 + v)) (by simp [Hid]) rfl (Rd.new' rfl (by simp only [cR, List.map_cons, List.map_nil, SlB.val, lW.out]) rfl) ?_ (by simp)).mono ?_
            · intro r hr
              obtain rfl := List.mem_singleton.1 hr
              exact ⟨(rW.out.keep0 hch04).alloc _, by simp only; rw [lW.out]; omega⟩
            rintro e w5 ⟨rfl, rfl⟩
            have hL := Lib.hid (decF_e4' Hh.out (by rw [hv.out]; omega) (by rw [hv.out]; omega))
            have hG : Hid (ofFour (L.drop (8 + v)) = crc (L.take (8 + v)) → decF L = ⟨(L.take (8 + v)).drop 8, 12 + v, 0⟩) := fun he => by
              have h1 := decF_good (L := L) ⟨by rw [hv.out]; omega, Hh.out, by rw [hv.out]; omega, by rw [hv.out]; exact he⟩
              rw [hv.out] at h1; exact h1
            rw [hv.out] at hL
            have hx := ofFour_lt (L.drop (8 + v))
            have hy := crc_lt (L.take (8 + v))
            obtain ⟨x, hX⟩ : ∃ x, Hid (ofFour (L.drop (8 + v)) = x) := ⟨_, rfl⟩
            obtain ⟨y, hY⟩ : ∃ y, Hid (crc (L.take (8 + v)) = y) := ⟨_, rfl⟩
            rw [hX.out] at hL hG hx ⊢
            rw [hY.out] at hL hG hy ⊢
            by_cases hxy : x = y
            · subst hxy
              have hb : ((x : Int) != (x : Int)) = false := by simp
              have sC := fun w => run_slice_lo (P := Try.prog) w Try.underlying28 hi hz1 A (8 + v) c 8 8 (by omega) (by omega)
              have rC := Lib.hid ((Rd.dropB (L := L.take (8 + v)) rW.out (k := 8) (c := c) (by rw [lW.out]; omega) (by rw [lW.out]; omega)))
              have lC : Hid (((L.take (8 + v)).drop 8).length = v) := by unfold Hid; rw [List.length_drop, lW.out]; omega
              go_wp2_with (fail)
              (with_reducible refine (clone_any _ _ _ _ ((L.take (8 + v)).drop 8) lC.out ((rC.out.keep0 hch04).alloc _) (by rw [lC.out]; omega)).mono ?_)
              rintro e w6 ⟨A6, c6, rfl, hown6, hch6⟩
              go_wp2_with (fail)
              go_ret3
              have ht' := ht.out.symm.trans (hG.out (by first | rfl | trivial))
              subst ht'
              refine ⟨A6, c6, ?_, ?_, (hch04.alloc _).trans hch6 (by simp)⟩
              · simp only [lC.out]
                show Ending.returned (.tuple #[.slice A6 v c6, .int .i64 (8 + (v : Int) + 4), .int .i64 0]) = _
                rw [show (8 + (v : Int) + 4) = ((12 + v : Nat) : Int) by omega]
                rfl
              · simp only [lC.out]
                exact own_up hown6 (by have := hch04.size; simp; omega)
            · have hb : ((x : Int) != (y : Int)) = true := by rw [bne_iff_ne]; omega
              go_wp2_with (fail)
              go_ret3
              exact DecFPost.bad 4 (ht.out.symm.trans (hL.out hxy)) (hch04.alloc _)
    · have hd : Hid (decide (L.take 8 = headF v) = false) := by unfold Hid; rw [← hv.out]; exact decide_eq_false hh
      have Hh := Lib.hid hh
      clear hh h8
      go_enter Try.func62, Try.ntmps62
      go_wp2_with (fail)
      refine (fromFour_any _ _ _ c L rfl HR.out (by omega) hl).mono ?_
      rw [hv.out]
      rintro e w1 ⟨rfl, hch1⟩
      go_wp2_with (fail)
      go_region_held3 (fun _ => True) (first | trivial | fail)
        (first
          | (go_simp; go_at_call 52; (with_reducible refine (headOf_any _ v hF).mono ?_); rintro e w2 ⟨A2, c2, rfl, r2, _, hch2⟩; have hch12 : Hid (Chg [] w1 w2) := ((by repeat' (first | (with_reducible assumption) | (with_reducible exact Chg.refl _ _) | (with_reducible refine Chg.alloc ?_ _) | (with_reducible refine Chg.drewN ?_ _) | (with_reducible refine Chg.drew ?_) | (with_reducible refine Chg.strW ?_ _ _) | (with_reducible refine Chg.t0 ?_ (by with_reducible assumption)))) : Chg [] w1 w2))
          | (go_simp; go_at_call 39; (with_reducible refine (equal_to _ A A2 8 8 c c2 (L.take 8) (headF v) false hd.out l8.out (headF_len v) (Rd.k0 r8.out (hch1.trans (show Chg [] w1 _ from (by repeat' (first | (with_reducible assumption) | (with_reducible exact Chg.refl _ _) | (with_reducible refine Chg.alloc ?_ _) | (with_reducible refine Chg.drewN ?_ _) | (with_reducible refine Chg.drew ?_) | (with_reducible refine Chg.strW ?_ _ _) | (with_reducible refine Chg.t0 ?_ (by with_reducible assumption))))) (by simp))) (by rw [headF_len]; exact Rd.k0 r2 (by repeat' (first | (with_reducible assumption) | (with_reducible exact Chg.refl _ _) | (with_reducible refine Chg.alloc ?_ _) | (with_reducible refine Chg.drewN ?_ _) | (with_reducible refine Chg.drew ?_) | (with_reducible refine Chg.strW ?_ _ _) | (with_reducible refine Chg.t0 ?_ (by with_reducible assumption)))))).mono ?_); rintro e w3 ⟨rfl, rfl⟩))
      all_goals
        go_wp2_with (fail)
        go_ret3
        exact DecFPost.bad 4 (ht.out.symm.trans (decF_e4 h8' Hh.out)) (hch1.trans (show Chg [] w1 _ from (by repeat' (first | (with_reducible assumption) | (with_reducible exact Chg.refl _ _) | (with_reducible refine Chg.alloc ?_ _) | (with_reducible refine Chg.drewN ?_ _) | (with_reducible refine Chg.drew ?_) | (with_reducible refine Chg.strW ?_ _ _) | (with_reducible refine Chg.t0 ?_ (by with_reducible assumption))))) (by simp))
end Go.Proofs.Ytkdbjhmffnjimaa
namespace Go.Proofs.Ytkdbjhmffnjimaa
open Go.RowKit
set_option linter.unusedVariables false

theorem refFromFour_to (w : World) (A : Option Addr) (n c : Nat) (L : List UInt8) (x : Nat) (hx : ofFour L = x) (hn : L.length = n) (hr : Rd w 1 A L.length (cB L)) (h4 : 4 ≤ L.length) (hl : L.length ≤ 1099511627776) :
    Calls Try.prog 68 #[.slice A n c] w fun e w' => e = .returned (.int .u32 (x : Int)) ∧ Chg [] w w' := by
  subst hx
  exact refFromFour_any w A n c L hn hr h4 hl
theorem refSum_to (w : World) (A : Option Addr) (n c : Nat) (bs : List UInt8) (x : Nat) (hx : crc bs = x) (hn : bs.length = n) (hr : Rd w 1 A bs.length (cB bs)) (hlen : bs.length ≤ 140737488355328) :
    Calls Try.prog 60 #[.slice A n c] w fun e w' => e = .returned (.int .u32 (x : Int)) ∧ w = w' := by
  subst hx
  exact refSum_any w A n c bs hn hr hlen

set_option maxRecDepth 100000 in
set_option maxHeartbeats 1600000 in
theorem refDecF_any (w : World) (A : Option Addr) (n c : Nat) (L : List UInt8) (hn : L.length = n) (hr : Rd w 1 A L.length (cB L)) (hc : L.length ≤ c) (hl : L.length ≤ 1099511627776) :
    Calls Try.prog 40 #[.slice A n c] w (DecFPost w (decF L)) := by
  subst hn
  have HR := Lib.hid hr
  clear hr
  obtain ⟨i0, hi, hz0, hz1, hz2⟩ := info_parts info8
  obtain ⟨t, ht⟩ : ∃ t, Hid (decF L = t) := ⟨_, rfl⟩
  rw [ht.out]
  by_cases h8 : L.length < 8
  · go_enter Try.func40, Try.ntmps40
    go_wp2_with (fail)
    go_ret3
    exact DecFPost.bad 2 (ht.out.symm.trans (decF_e2 h8)) (Chg.refl _ _)
  · have h8' : 8 ≤ L.length := by omega
    have r4 := Lib.hid (HR.out.takeB (k := 4) (by omega))
    have l4 : Hid ((L.take 4).length = 4) := by unfold Hid; rw [List.length_take]; omega
    have q4 := Lib.hid (HR.out.dropB (k := 4) (c := c) (by omega) hc)
    have m4 : Hid ((L.drop 4).length = L.length - 4) := by unfold Hid; rw [List.length_drop]
    have s4 := fun w => run_slice_hi (P := Try.prog) w Try.underlying28 hi A L.length c 4 4 rfl (by omega)
    have t4 := fun w => run_slice_lo (P := Try.prog) w Try.underlying28 hi hz1 A L.length c 4 4 rfl (by omega)
    have Hh := Lib.hid (head_iff h8')
    have hx := ofFour_lt (L.drop 4)
    have hy := crc_lt (L.take 4)
    obtain ⟨x, hX⟩ : ∃ x, Hid (ofFour (L.drop 4) = x) := ⟨_, rfl⟩
    obtain ⟨y, hY⟩ : ∃ y, Hid (crc (L.take 4) = y) := ⟨_, rfl⟩
    rw [hX.out, hY.out] at Hh
    rw [hX.out] at hx
    rw [hY.out] at hy
    have hF := ofFour_lt L
    obtain ⟨v, hv⟩ : ∃ v, Hid (ofFour L = v) := ⟨_, rfl⟩
    rw [hv.out] at hF
    by_cases hxy : x = y
    · have Hxy := Lib.hid (Hh.out.2 hxy)
      have hb : ((x : Int) != (y : Int)) = false := by rw [hxy]; simp
      clear hxy
      go_enter Try.func40, Try.ntmps40
      go_upto_region 4 with (fail)
      go_cut [15] (fun s wx => s = .bool false ∧ Chg [] w wx)
      case first =>
        go_region_held3 (fun _ => True) (first | trivial | fail)
          (first
            | (go_simp; go_at_call 68; (with_reducible refine (refFromFour_to _ _ _ _ (L.drop 4) x hX.out m4.out (Rd.k0 q4.out (by repeat' (first | (with_reducible assumption) | (with_reducible exact Chg.refl _ _) | (with_reducible refine Chg.alloc ?_ _) | (with_reducible refine Chg.drewN ?_ _) | (with_reducible refine Chg.drew ?_) | (with_reducible refine Chg.strW ?_ _ _) | (with_reducible refine Chg.t0 ?_ (by with_reducible assumption))))) (by rw [m4.out]; omega) (by rw [m4.out]; omega)).mono ?_); rintro e w2 ⟨rfl, hch2⟩; have hch02 : Hid (Chg [] w w2) := ((by repeat' (first | (with_reducible assumption) | (with_reducible exact Chg.refl _ _) | (with_reducible refine Chg.alloc ?_ _) | (with_reducible refine Chg.drewN ?_ _) | (with_reducible refine Chg.drew ?_) | (with_reducible refine Chg.strW ?_ _ _) | (with_reducible refine Chg.t0 ?_ (by with_reducible assumption)))) : Chg [] w w2))
            | (go_simp; go_at_call 60; (with_reducible refine (refSum_to _ _ _ _ (L.take 4) y hY.out l4.out (Rd.k0 r4.out (by repeat' (first | (with_reducible assumption) | (with_reducible exact Chg.refl _ _) | (with_reducible refine Chg.alloc ?_ _) | (with_reducible refine Chg.drewN ?_ _) | (with_reducible refine Chg.drew ?_) | (with_reducible refine Chg.strW ?_ _ _) | (with_reducible refine Chg.t0 ?_ (by with_reducible assumption))))) (by rw [l4.out]; omega)).mono ?_); rintro e w2 ⟨rfl, rfl⟩))
        all_goals
          go_wp2_with (fail)
          go_meet
          exact ⟨rfl, (by repeat' (first | (with_reducible assumption) | (with_reducible exact Chg.refl _ _) | (with_reducible refine Chg.alloc ?_ _) | (with_reducible refine Chg.drewN ?_ _) | (with_reducible refine Chg.drew ?_) | (with_reducible refine Chg.strW ?_ _ _) | (with_reducible refine Chg.t0 ?_ (by with_reducible assumption))))⟩
      case rest =>
        obtain ⟨rfl, hch⟩ := hcut
        go_wp2_with (fail)
        refine (refFromFour_to _ _ _ _ L v hv.out rfl (HR.out.keep0 hch) (by omega) hl).mono ?_
        rintro e w1 ⟨rfl, hch1⟩
        have hch01 := hch.trans hch1 (by simp)
        by_cases hv5 : 262144 < v
        · go_wp2_with (fail)
          go_ret3
          exact DecFPost.bad 5 (ht.out.symm.trans (decF_e5 h8' Hxy.out (by rw [hv.out]; exact hv5))) hch01
        · by_cases hln : L.length < 12 + v
          · go_wp2_with (fail)
            go_ret3
            exact DecFPost.bad 2 (ht.out.symm.trans (decF_e2' h8' Hxy.out (by rw [hv.out]; omega) (by rw [hv.out]; exact hln))) hch01
          · have sW := fun w => run_slice_hi (P := Try.prog) w Try.underlying28 hi A L.length c (8 + (v : Int)) (8 + v) (by omega) (by omega)
            have sT := fun w => run_slice_lo (P := Try.prog) w Try.underlying28 hi hz1 A L.length c (8 + (v : Int)) (8 + v) (by omega) (by omega)
            have rT := Lib.hid (HR.out.dropB (k := 8 + v) (c := c) (by omega) hc)
            have rW := Lib.hid (HR.out.takeB (k := 8 + v) (by omega))
            have lT : Hid ((L.drop (8 + v)).length = L.length - (8 + v)) := by unfold Hid; rw [List.length_drop]
            have lW : Hid ((L.take (8 + v)).length = 8 + v) := by unfold Hid; rw [List.length_take]; omega
            have hL := Lib.hid (decF_e4' Hxy.out (by rw [hv.out]; omega) (by rw [hv.out]; omega))
            have hG : Hid (ofFour (L.drop (8 + v)) = crc (L.take (8 + v)) → decF L = ⟨(L.take (8 + v)).drop 8, 12 + v, 0⟩) := fun he => by
              have h1 := decF_good (L := L) ⟨by rw [hv.out]; omega, Hxy.out, by rw [hv.out]; omega, by rw [hv.out]; exact he⟩
              rw [hv.out] at h1; exact h1
            rw [hv.out] at hL
            have hx' := ofFour_lt (L.drop (8 + v))
            have hy' := crc_lt (L.take (8 + v))
            obtain ⟨x', hX'⟩ : ∃ x, Hid (ofFour (L.drop (8 + v)) = x) := ⟨_, rfl⟩
            obtain ⟨y', hY'⟩ : ∃ y, Hid (crc (L.take (8 + v)) = y) := ⟨_, rfl⟩
            rw [hX'.out] at hL hG hx'
            rw [hY'.out] at hL hG hy'
            have e8 : IntKind.i64.wrap (8 + (v : Int)) = 8 + (v : Int) := IntWalk.i64_in _ (by omega)
            have e8n : (8 + (v : Int)).toNat = 8 + v := by omega
            clear hb
            have hsz := hch01.size
            obtain ⟨b, hb⟩ : ∃ b, Hid (((x' : Int) != (y' : Int)) = b) := ⟨_, rfl⟩
            go_upto_region 11 with (fail)
            go_cut [36] (fun s wx => s = .bool b ∧ Chg [] w wx)
            case first =>
              go_region_held3 (fun _ => True) (first | trivial | fail)
                (first
                  | (go_simp; go_at_call 68; (with_reducible refine (refFromFour_to _ _ _ _ (L.drop (8 + v)) x' hX'.out lT.out (Rd.k0 rT.out (hch01.trans (show Chg [] w1 _ from (by repeat' (first | (with_reducible assumption) | (with_reducible exact Chg.refl _ _) | (with_reducible refine Chg.alloc ?_ _) | (with_reducible refine Chg.drewN ?_ _) | (with_reducible refine Chg.drew ?_) | (with_reducible refine Chg.strW ?_ _ _) | (with_reducible refine Chg.t0 ?_ (by with_reducible assumption))))) (by simp))) (by rw [lT.out]; omega) (by rw [lT.out]; omega)).mono ?_); rintro e w2 ⟨rfl, hch2⟩; have hch02 : Hid (Chg [] w1 w2) := ((by repeat' (first | (with_reducible assumption) | (with_reducible exact Chg.refl _ _) | (with_reducible refine Chg.alloc ?_ _) | (with_reducible refine Chg.drewN ?_ _) | (with_reducible refine Chg.drew ?_) | (with_reducible refine Chg.strW ?_ _ _) | (with_reducible refine Chg.t0 ?_ (by with_reducible assumption)))) : Chg [] w1 w2))
                  | (go_simp; go_at_call 60; (with_reducible refine (refSum_to _ _ _ _ (L.take (8 + v)) y' hY'.out lW.out (Rd.k0 rW.out (hch01.trans (show Chg [] w1 _ from (by repeat' (first | (with_reducible assumption) | (with_reducible exact Chg.refl _ _) | (with_reducible refine Chg.alloc ?_ _) | (with_reducible refine Chg.drewN ?_ _) | (with_reducible refine Chg.drew ?_) | (with_reducible refine Chg.strW ?_ _ _) | (with_reducible refine Chg.t0 ?_ (by with_reducible assumption))))) (by simp))) (by rw [lW.out]; omega)).mono ?_); rintro e w2 ⟨rfl, rfl⟩))
              all_goals
                go_wp2_with (fail)
                go_meet
                exact ⟨by rw [hb.out], hch01.trans (show Chg [] w1 _ from (by repeat' (first | (with_reducible assumption) | (with_reducible exact Chg.refl _ _) | (with_reducible refine Chg.alloc ?_ _) | (with_reducible refine Chg.drewN ?_ _) | (with_reducible refine Chg.drew ?_) | (with_reducible refine Chg.strW ?_ _ _) | (with_reducible refine Chg.t0 ?_ (by with_reducible assumption))))) (by simp)⟩
            case rest =>
              obtain ⟨rfl, hch3⟩ := hcut
              clear sW sT e8 e8n
              cases b
              · have hxy' : x' = y' := by
                  have h1 := hb.out
                  simp at h1; omega
                have sB := fun w => run_slice_both (P := Try.prog) w Try.underlying28 hi hz1 A L.length c 8 (8 + (v : Int)) 8 (8 + v) (by omega) (by omega) (by omega) (by omega)
                have rC := Lib.hid ((Rd.dropB (L := L.take (8 + v)) rW.out (k := 8) (c := c) (by rw [lW.out]; omega) (by rw [lW.out]; omega)))
                have lC : Hid (((L.take (8 + v)).drop 8).length = v) := by unfold Hid; rw [List.length_drop, lW.out]; omega
                have HT := Lib.hid (ht.out.symm.trans (hG.out hxy'))
                clear hxy'
                have rC' : Rd wc 1 (cutA A c 8 1) v (cB ((L.take (8 + v)).drop 8)) := by
                  have h1 := rC.out.keep0 hch3
                  rw [lC.out] at h1
                  exact h1
                go_wp2_with (at_builtin; refine wpList_append_rd _ rfl (.tmp 37) (.tmp 41) 28 (by rfl) wc.heap.size 5 i0 _ 1 1 Try.underlying28 hi hz0 hz1 hz2 rfl (by omega) (.slice (some ⟨wc.heap.size, 0, none⟩) 0 0) 0 [] (by rfl) (World.ownsRow_made wc #[] 0 (Nat.le_refl _) (by simp [maxLen]) rfl) (cutA A c 8 1) v (c - 8) (cB ((L.take (8 + v)).drop 8)) (by rfl) (rC'.alloc _) (cB_one _) (by unfold maxLen; omega) (by omega) (by simp) ?_; intro A3 c3 w3 hown3 hg3 hb3)
                have hch4 : Chg [] wc w3 := ((Chg.refl [] wc).alloc _).grown hg3 (fun k hk => .inr (by simp [Value.ownBlock] at hk; omega))
                simp only [Nat.zero_add, List.nil_append] at hown3
                go_ret3
                have ht' := HT.out
                subst ht'
                refine ⟨A3, c3, ?_, ?_, hch3.trans hch4 (by simp)⟩
                · simp only [lC.out]
                  show Ending.returned (.tuple #[.slice A3 v c3, .int .i64 (12 + (v : Int)), .int .i64 0]) = _
                  rw [show (12 + (v : Int)) = ((12 + v : Nat) : Int) by omega]
                  rfl
                · simp only [lC.out]
                  exact own_up hown3 hch3.size
              · have hxy' : x' ≠ y' := by
                  have h1 := hb.out
                  simp at h1; omega
                have HT := Lib.hid (ht.out.symm.trans (hL.out hxy'))
                clear hxy'
                go_wp2_with (fail)
                go_ret3
                exact DecFPost.bad 4 HT.out hch3
    · have hb : ((x : Int) != (y : Int)) = true := by rw [bne_iff_ne]; omega
      have Hxy := Lib.hid (fun h => hxy (Hh.out.1 h))
      clear hxy
      go_enter Try.func40, Try.ntmps40
      go_wp2_with (fail)
      go_region_held3 (fun _ => True) (first | trivial | fail)
        (first
          | (go_simp; go_at_call 68; (with_reducible refine (refFromFour_to _ _ _ _ (L.drop 4) x hX.out m4.out (Rd.k0 q4.out (by repeat' (first | (with_reducible assumption) | (with_reducible exact Chg.refl _ _) | (with_reducible refine Chg.alloc ?_ _) | (with_reducible refine Chg.drewN ?_ _) | (with_reducible refine Chg.drew ?_) | (with_reducible refine Chg.strW ?_ _ _) | (with_reducible refine Chg.t0 ?_ (by with_reducible assumption))))) (by rw [m4.out]; omega) (by rw [m4.out]; omega)).mono ?_); rintro e w2 ⟨rfl, hch2⟩; have hch02 : Hid (Chg [] w w2) := ((by repeat' (first | (with_reducible assumption) | (with_reducible exact Chg.refl _ _) | (with_reducible refine Chg.alloc ?_ _) | (with_reducible refine Chg.drewN ?_ _) | (with_reducible refine Chg.drew ?_) | (with_reducible refine Chg.strW ?_ _ _) | (with_reducible refine Chg.t0 ?_ (by with_reducible assumption)))) : Chg [] w w2))
          | (go_simp; go_at_call 60; (with_reducible refine (refSum_to _ _ _ _ (L.take 4) y hY.out l4.out (Rd.k0 r4.out (by repeat' (first | (with_reducible assumption) | (with_reducible exact Chg.refl _ _) | (with_reducible refine Chg.alloc ?_ _) | (with_reducible refine Chg.drewN ?_ _) | (with_reducible refine Chg.drew ?_) | (with_reducible refine Chg.strW ?_ _ _) | (with_reducible refine Chg.t0 ?_ (by with_reducible assumption))))) (by rw [l4.out]; omega)).mono ?_); rintro e w2 ⟨rfl, rfl⟩))
      all_goals
        go_wp2_with (fail)
        go_ret3
        exact DecFPost.bad 4 (ht.out.symm.trans (decF_e4 h8' Hxy.out)) (by repeat' (first | (with_reducible assumption) | (with_reducible exact Chg.refl _ _) | (with_reducible refine Chg.alloc ?_ _) | (with_reducible refine Chg.drewN ?_ _) | (with_reducible refine Chg.drew ?_) | (with_reducible refine Chg.strW ?_ _ _) | (with_reducible refine Chg.t0 ?_ (by with_reducible assumption))))
end Go.Proofs.Ytkdbjhmffnjimaa
namespace Go.Proofs.Ytkdbjhmffnjimaa
open Go.RowKit
set_option linter.unusedVariables false

def oneF (L : List UInt8) : List UInt8 × Nat := if (decF L).e = 0 ∧ (decF L).n ≠ L.length then ([], 3) else ((decF L).p, (decF L).e)
def OneFPost (w : World) (t : List UInt8 × Nat) (e : Ending) (w' : World) : Prop := ∃ A c, e = .returned (.tuple #[.slice A t.1.length c, .int .i64 t.2]) ∧ w'.ownsRow w.heap.size 5 1 (.slice A t.1.length c) t.1.length (cB t.1) ∧ Chg [] w w'
theorem oneF_3 {L : List UInt8} (h : (decF L).e = 0) (h2 : (decF L).n ≠ L.length) : oneF L = ([], 3) := by unfold oneF; rw [if_pos ⟨h, h2⟩]
theorem oneF_0 {L : List UInt8} (h : (decF L).e = 0) (h2 : (decF L).n = L.length) : oneF L = ((decF L).p, 0) := by unfold oneF; rw [if_neg (by simp [h2]), h]
theorem oneF_e {L : List UInt8} (h : (decF L).e ≠ 0) : oneF L = ([], (decF L).e) := by unfold oneF; rw [if_neg (by simp [h]), (decF_bad h).1]
theorem OneFPost.bad {w w' : World} {t : List UInt8 × Nat} (n : Nat) (ht : t = ([], n)) (h : Chg [] w w') : OneFPost w t (.returned (.tuple #[.slice none 0 0, .int .i64 n])) w' := by
  subst ht
  exact ⟨none, 0, rfl, own_none _ _ _ _, h⟩
theorem OneFPost.is {w w' : World} {t : List UInt8 × Nat} {A : Option Addr} {n c : Nat} {z : Int} (p : List UInt8) (k : Nat) (ht : t = (p, k)) (hn : p.length = n) (hz : z = (k : Int)) (ho : w'.ownsRow w.heap.size 5 1 (.slice A n c) n (cB p)) (h : Chg [] w w') : OneFPost w t (.returned (.tuple #[.slice A n c, .int .i64 z])) w' := by
  subst ht hn hz
  exact ⟨A, c, rfl, ho, h⟩

set_option maxRecDepth 100000 in
set_option maxHeartbeats 1600000 in
theorem frOne_any (w : World) (A : Option Addr) (n c : Nat) (L : List UInt8) (hn : L.length = n) (hr : Rd w 1 A L.length (cB L)) (hc : L.length ≤ c) (hl : L.length ≤ 1099511627776) :
    Calls Try.prog 32 #[.slice A n c] w (OneFPost w (oneF L)) := by
  subst hn
  have h3 := Lib.hid (oneF_3 (L := L))
  have h0 := Lib.hid (oneF_0 (L := L))
  have he := Lib.hid (oneF_e (L := L))
  have HD := frDecode_any w A _ c L rfl hr hc hl
  obtain ⟨t, ht⟩ : ∃ t, Hid (decF L = t) := ⟨_, rfl⟩
  have hb := Lib.hid (decF_bad (L := L))
  rw [ht.out] at h3 h0 he HD hb
  obtain ⟨u, hu⟩ : ∃ u, Hid (oneF L = u) := ⟨_, rfl⟩
  rw [hu.out] at h3 h0 he ⊢
  obtain ⟨p, m, x⟩ := t
  simp only at h3 h0 he hb
  have HD' := Lib.hid HD
  clear HD hr hc
  go_enter Try.func32, Try.ntmps32
  go_wp2_with (fail)
  refine HD'.out.mono ?_
  rintro e w1 ⟨A1, c1, rfl, hown1, hch1⟩
  simp only at hown1 ⊢
  have hpl := Lib.hid (rfl : p.length = p.length)
  by_cases hx : x = 0
  · have hbx : ((x : Int) == 0) = true := by rw [hx]; rfl
    by_cases hm : m = L.length
    · have hbm : ((m : Int) != (L.length : Int)) = false := by rw [hm]; simp
      have Hx := Lib.hid hx
      have Hm := Lib.hid hm
      clear hx hm
      go_wp2_with (fail)
      go_ret2
      exact OneFPost.is p 0 (h0.out Hx.out Hm.out) rfl (by have := Hx.out; omega) hown1 hch1
    · have hbm : ((m : Int) != (L.length : Int)) = true := by rw [bne_iff_ne]; omega
      have Hx := Lib.hid hx
      have Hm := Lib.hid hm
      clear hx hm
      go_wp2_with (fail)
      go_ret2
      exact OneFPost.bad 3 (h3.out Hx.out Hm.out) hch1
  · have hbx : ((x : Int) == 0) = false := by rw [beq_eq_false_iff_ne]; omega
    have Hx := Lib.hid hx
    clear hx
    go_wp2_with (fail)
    go_ret2
    obtain ⟨rfl, rfl⟩ := hb.out Hx.out
    exact OneFPost.is [] x (he.out Hx.out) rfl rfl hown1 hch1

/-! ### Scan -/

theorem own_ne {w : World} {b b' : Nat} {e e' : TypeId} {s s' n n' : Nat} {v v' : Value} {xs ys : List Value} (h : w.ownsRow b e s v n xs) (h' : w.ownsRow b' e' s' v' n' ys) (hne : e ≠ e') : ∀ k, v.ownBlock = some k → v'.ownBlock ≠ some k := by
  intro k hk hk'
  rcases h'.2 with ⟨rfl, _⟩ | ⟨g', cap, cur, rfl, _, hh, _⟩
  · simp [Value.ownBlock] at hk'
  · have hg : g' = k := by simpa [Value.ownBlock] using hk'
    subst hg
    exact own_at_ne h (show At w g' e' cur from hh) hne _ hk rfl
/-- Rows of bytes, a row of their own each. -/
def OwnB (w : World) (base : Nat) (r : SlB) : Prop := w.ownsRow base 5 1 (.slice r.A r.bs.length r.c) r.bs.length (cB r.bs)
def ScanPost (w : World) (L : List UInt8) (e : Ending) (w' : World) : Prop := ∃ A c ls, e = .returned (.tuple #[.slice A ls.length c, .int .i64 ((scanF L).2 : Nat)]) ∧ ls.map SlB.bs = (scanF L).1 ∧ w'.ownsRow w.heap.size 28 1 (.slice A ls.length c) ls.length (cR ls) ∧ (∀ r ∈ ls, OwnB w' w.heap.size r) ∧ Chg [] w w'
theorem info_b : (Try.prog.info? 28).map (fun i => (i.zero, i.size, i.bytes)) = some (some (.slice none 0 0), 1, 24) := by kernel_rfl
theorem cR_app (a b : List SlB) : cR (a ++ b) = cR a ++ cR b := by simp [cR]

end Go.Proofs.Ytkdbjhmffnjimaa
