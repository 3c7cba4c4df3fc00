
/-
  frame.Decode.
-/
import Derived.Test.YtkdbjhmffnjimaaFraE
import Derived.Test.YtkdbjhmffnjimaaEqual
import Derived.Deep.RegionHeld3
import Derived.Deep.DeepCutAuto
import Derived.Deep.CutBlock
namespace Go.Proofs.Ytkdbjhmffnjimaa
open Go.RowKit
set_option linter.unusedVariables false

def DecFPost (w : World) (t : Took) (e : Ending) (w' : World) : Prop := ∃ A c, e = .returned (.tuple #[.slice A t.p.length c, .int .i64 t.n, .int .i64 t.e]) ∧ w'.ownsRow w.heap.size 5 1 (.slice A t.p.length c) t.p.length (cB t.p) ∧ Chg [] w w'
theorem DecFPost.bad {w w' : World} {t : Took} (n : Nat) (ht : t = ⟨[], 0, n⟩) (h : Chg [] w w') : DecFPost w t (.returned (.tuple #[.slice none 0 0, .int .i64 0, .int .i64 n])) w' := by
  subst ht
  exact ⟨none, 0, rfl, own_none _ _ _ _, h⟩
theorem decF_e4 {L : List UInt8} (h : 8 ≤ L.length) (h2 : L.take 8 ≠ headF (ofFour L)) : decF L = ⟨[], 0, 4⟩ := by unfold decF; rw [if_neg (by omega), if_pos h2]
theorem decF_e5 {L : List UInt8} (h : 8 ≤ L.length) (h2 : L.take 8 = headF (ofFour L)) (h3 : 262144 < ofFour L) : decF L = ⟨[], 0, 5⟩ := by unfold decF; rw [if_neg (by omega), if_neg (by simpa using h2), if_pos h3]
theorem decF_e2' {L : List UInt8} (h : 8 ≤ L.length) (h2 : L.take 8 = headF (ofFour L)) (h3 : ofFour L ≤ 262144) (h4 : L.length < 12 + ofFour L) : decF L = ⟨[], 0, 2⟩ := by unfold decF; rw [if_neg (by omega), if_neg (by simpa using h2), if_neg (by omega), if_pos h4]
theorem decF_e4' {L : List UInt8} (h2 : L.take 8 = headF (ofFour L)) (h3 : ofFour L ≤ 262144) (h4 : 12 + ofFour L ≤ L.length) (h5 : ofFour (L.drop (8 + ofFour L)) ≠ crc (L.take (8 + ofFour L))) : decF L = ⟨[], 0, 4⟩ := by unfold decF; rw [if_neg (by omega), if_neg (by simpa using h2), if_neg (by omega), if_neg (by omega), if_pos h5]

theorem equal_to (w : World) (A B : Option Addr) (n m c d : Nat) (xs ys : List UInt8) (s : Bool) (hs : decide (xs = ys) = s) (hn : xs.length = n) (hm : ys.length = m) (hx : Rd w 1 A xs.length (cB xs)) (hy : Rd w 1 B ys.length (cB ys)) :
    Calls Try.prog 39 #[.slice A n c, .slice B m d] w fun e w' => e = .returned (.bool s) ∧ w = w' := by
  subst hs
  exact equal_any w A B n m c d xs ys hn hm hx hy
set_option maxRecDepth 100000 in
set_option maxHeartbeats 1600000 in
theorem frDecode_any (w : World) (A : Option Addr) (n c : Nat) (L : List UInt8) (hn : L.length = n) (hr : Rd w 1 A L.length (cB L)) (hc : L.length ≤ c) (hl : L.length ≤ 1099511627776) :
    Calls Try.prog 62 #[.slice A n c] w (DecFPost w (decF L)) := by
  subst hn
  have HR := Lib.hid hr
  clear hr
  obtain ⟨i0, hi, hz0, hz1, hz2⟩ := info_parts info8
  obtain ⟨t, ht⟩ : ∃ t, Hid (decF L = t) := ⟨_, rfl⟩
  rw [ht.out]
  by_cases h8 : L.length < 8
  · go_enter Try.func62, Try.ntmps62
    go_wp2_with (fail)
    go_ret3
    exact DecFPost.bad 2 (ht.out.symm.trans (decF_e2 h8)) (Chg.refl _ _)
  · have h8' : 8 ≤ L.length := by omega
    have r8 := Lib.hid (HR.out.takeB (k := 8) (by omega))
    have l8 : Hid ((L.take 8).length = 8) := by unfold Hid; rw [List.length_take]; omega
    have s8 := fun w => run_slice_hi (P := Try.prog) w Try.underlying28 hi A L.length c 8 8 rfl (by omega)
    have hF := ofFour_lt L
    obtain ⟨v, hv⟩ : ∃ v, Hid (ofFour L = v) := ⟨_, rfl⟩
    rw [hv.out] at hF
    by_cases hh : L.take 8 = headF (ofFour L)
    · have hd : Hid (decide (L.take 8 = headF v) = true) := by unfold Hid; rw [← hv.out]; exact decide_eq_true hh
      have Hh := Lib.hid hh
      clear hh h8
      go_enter Try.func62, Try.ntmps62
      go_wp2_with (fail)
      refine (fromFour_any _ _ _ c L rfl HR.out (by omega) hl).mono ?_
      rw [hv.out]
      rintro e w1 ⟨rfl, hch1⟩
      go_upto_region 5 with (fail)
      go_cut [12] (fun s5 wx => s5 = .bool false ∧ Chg [] w1 wx)
      case first =>
        go_region_held3 (fun _ => True) (first | trivial | fail)
          (first
            | (go_simp; go_at_call 52; (with_reducible refine (headOf_any _ v hF).mono ?_); rintro e w2 ⟨A2, c2, rfl, r2, _, hch2⟩; have hch12 : Hid (Chg [] w1 w2) := ((by repeat' (first | (with_reducible assumption) | (with_reducible exact Chg.refl _ _) | (with_reducible refine Chg.alloc ?_ _) | (with_reducible refine Chg.drewN ?_ _) | (with_reducible refine Chg.drew ?_) | (with_reducible refine Chg.strW ?_ _ _) | (with_reducible refine Chg.t0 ?_ (by with_reducible assumption)))) : Chg [] w1 w2))
            | (go_simp; go_at_call 39; (with_reducible refine (equal_to _ A A2 8 8 c c2 (L.take 8) (headF v) true hd.out l8.out (headF_len v) (Rd.k0 r8.out (hch1.trans (show Chg [] w1 _ from (by repeat' (first | (with_reducible assumption) | (with_reducible exact Chg.refl _ _) | (with_reducible refine Chg.alloc ?_ _) | (with_reducible refine Chg.drewN ?_ _) | (with_reducible refine Chg.drew ?_) | (with_reducible refine Chg.strW ?_ _ _) | (with_reducible refine Chg.t0 ?_ (by with_reducible assumption))))) (by simp))) (by rw [headF_len]; exact Rd.k0 r2 (by repeat' (first | (with_reducible assumption) | (with_reducible exact Chg.refl _ _) | (with_reducible refine Chg.alloc ?_ _) | (with_reducible refine Chg.drewN ?_ _) | (with_reducible refine Chg.drew ?_) | (with_reducible refine Chg.strW ?_ _ _) | (with_reducible refine Chg.t0 ?_ (by with_reducible assumption)))))).mono ?_); rintro e w3 ⟨rfl, rfl⟩))
        all_goals
          go_wp2_with (fail)
          go_meet
          exact ⟨rfl, (by repeat' (first | (with_reducible assumption) | (with_reducible exact Chg.refl _ _) | (with_reducible refine Chg.alloc ?_ _) | (with_reducible refine Chg.drewN ?_ _) | (with_reducible refine Chg.drew ?_) | (with_reducible refine Chg.strW ?_ _ _) | (with_reducible refine Chg.t0 ?_ (by with_reducible assumption))))⟩
      case rest =>
        obtain ⟨rfl, hchc⟩ := hcut
        have hch := hch1.trans hchc (by simp)
        by_cases hv5 : 262144 < v
        · go_wp2_with (fail)
          go_ret3
          exact DecFPost.bad 5 (ht.out.symm.trans (decF_e5 h8' Hh.out (by rw [hv.out]; exact hv5))) hch
        · by_cases hln : L.length < 12 + v
          · go_wp2_with (fail)
            go_ret3
            exact DecFPost.bad 2 (ht.out.symm.trans (decF_e2' h8' Hh.out (by rw [hv.out]; omega) (by rw [hv.out]; exact hln))) hch
          · have sW := fun w => run_slice_hi (P := Try.prog) w Try.underlying28 hi A L.length c (8 + (v : Int)) (8 + v) (by omega) (by omega)
            have sT := fun w => run_slice_lo (P := Try.prog) w Try.underlying28 hi hz1 A L.length c (8 + (v : Int)) (8 + v) (by omega) (by omega)
            have rT := Lib.hid (HR.out.dropB (k := 8 + v) (c := c) (by omega) hc)
            have rW := Lib.hid (HR.out.takeB (k := 8 + v) (by omega))
            have lT : Hid ((L.drop (8 + v)).length = L.length - (8 + v)) := by unfold Hid; rw [List.length_drop]
            have lW : Hid ((L.take (8 + v)).length = 8 + v) := by unfold Hid; rw [List.length_take]; omega
            have hsz := hch.size
            go_wp2_with (fail)
            refine (fromFour_any _ _ _ _ (L.drop (8 + v)) lT.out (rT.out.keep0 hch) (by rw [lT.out]; omega) (by rw [lT.out]; omega)).mono ?_
            rintro e w4 ⟨rfl, hch4⟩
            have hch04 := hch.trans hch4 (by simp)
            go_wp2_with (fail)
            refine (sum_to _ _ _ _ [⟨A, c, L.take (8 + v)⟩] (L.take (8 + v)) (by simp [Hid]) rfl (Rd.new' rfl (by simp only [cR, List.map_cons, List.map_nil, SlB.val, lW.out]) rfl) ?_ (by simp)).mono ?_
            · intro r hr
              obtain rfl := List.mem_singleton.1 hr
              exact ⟨(rW.out.keep0 hch04).alloc _, by simp only; rw [lW.out]; omega⟩
            rintro e w5 ⟨rfl, rfl⟩
            have hL := Lib.hid (decF_e4' Hh.out (by rw [hv.out]; omega) (by rw [hv.out]; omega))
            have hG : Hid (ofFour (L.drop (8 + v)) = crc (L.take (8 + v)) → decF L = ⟨(L.take (8 + v)).drop 8, 12 + v, 0⟩) := fun he => by
              have h1 := decF_good (L := L) ⟨by rw [hv.out]; omega, Hh.out, by rw [hv.out]; omega, by rw [hv.out]; exact he⟩
              rw [hv.out] at h1; exact h1
            rw [hv.out] at hL
            have hx := ofFour_lt (L.drop (8 + v))
            have hy := crc_lt (L.take (8 + v))
            obtain ⟨x, hX⟩ : ∃ x, Hid (ofFour (L.drop (8 + v)) = x) := ⟨_, rfl⟩
            obtain ⟨y, hY⟩ : ∃ y, Hid (crc (L.take (8 + v)) = y) := ⟨_, rfl⟩
            rw [hX.out] at hL hG hx ⊢
            rw [hY.out] at hL hG hy ⊢
            by_cases hxy : x = y
            · subst hxy
              have hb : ((x : Int) != (x : Int)) = false := by simp
              have sC := fun w => run_slice_lo (P := Try.prog) w Try.underlying28 hi hz1 A (8 + v) c 8 8 (by omega) (by omega)
              have rC := Lib.hid ((Rd.dropB (L := L.take (8 + v)) rW.out (k := 8) (c := c) (by rw [lW.out]; omega) (by rw [lW.out]; omega)))
              have lC : Hid (((L.take (8 + v)).drop 8).length = v) := by unfold Hid; rw [List.length_drop, lW.out]; omega
              go_wp2_with (fail)
              (with_reducible refine (clone_any _ _ _ _ ((L.take (8 + v)).drop 8) lC.out ((rC.out.keep0 hch04).alloc _) (by rw [lC.out]; omega)).mono ?_)
              rintro e w6 ⟨A6, c6, rfl, hown6, hch6⟩
              go_wp2_with (fail)
              go_ret3
              have ht' := ht.out.symm.trans (hG.out (by first | rfl | trivial))
              subst ht'
              refine ⟨A6, c6, ?_, ?_, (hch04.alloc _).trans hch6 (by simp)⟩
              · simp only [lC.out]
                show Ending.returned (.tuple #[.slice A6 v c6, .int .i64 (8 + (v : Int) + 4), .int .i64 0]) = _
                rw [show (8 + (v : Int) + 4) = ((12 + v : Nat) : Int) by omega]
                rfl
              · simp only [lC.out]
                exact own_up hown6 (by have := hch04.size; simp; omega)
            · have hb : ((x : Int) != (y : Int)) = true := by rw [bne_iff_ne]; omega
              go_wp2_with (fail)
              go_ret3
              exact DecFPost.bad 4 (ht.out.symm.trans (hL.out hxy)) (hch04.alloc _)
    · have hd : Hid (decide (L.take 8 = headF v) = false) := by unfold Hid; rw [← hv.out]; exact decide_eq_false hh
      have Hh := Lib.hid hh
      clear hh h8
      go_enter Try.func62, Try.ntmps62
      go_wp2_with (fail)
      refine (fromFour_any _ _ _ c L rfl HR.out (by omega) hl).mono ?_
      rw [hv.out]
      rintro e w1 ⟨rfl, hch1⟩
      go_wp2_with (fail)
      go_region_held3 (fun _ => True) (first | trivial | fail)
        (first
          | (go_simp; go_at_call 52; (with_reducible refine (headOf_any _ v hF).mono ?_); rintro e w2 ⟨A2, c2, rfl, r2, _, hch2⟩; have hch12 : Hid (Chg [] w1 w2) := ((by repeat' (first | (with_reducible assumption) | (with_reducible exact Chg.refl _ _) | (with_reducible refine Chg.alloc ?_ _) | (with_reducible refine Chg.drewN ?_ _) | (with_reducible refine Chg.drew ?_) | (with_reducible refine Chg.strW ?_ _ _) | (with_reducible refine Chg.t0 ?_ (by with_reducible assumption)))) : Chg [] w1 w2))
          | (go_simp; go_at_call 39; (with_reducible refine (equal_to _ A A2 8 8 c c2 (L.take 8) (headF v) false hd.out l8.out (headF_len v) (Rd.k0 r8.out (hch1.trans (show Chg [] w1 _ from (by repeat' (first | (with_reducible assumption) | (with_reducible exact Chg.refl _ _) | (with_reducible refine Chg.alloc ?_ _) | (with_reducible refine Chg.drewN ?_ _) | (with_reducible refine Chg.drew ?_) | (with_reducible refine Chg.strW ?_ _ _) | (with_reducible refine Chg.t0 ?_ (by with_reducible assumption))))) (by simp))) (by rw [headF_len]; exact Rd.k0 r2 (by repeat' (first | (with_reducible assumption) | (with_reducible exact Chg.refl _ _) | (with_reducible refine Chg.alloc ?_ _) | (with_reducible refine Chg.drewN ?_ _) | (with_reducible refine Chg.drew ?_) | (with_reducible refine Chg.strW ?_ _ _) | (with_reducible refine Chg.t0 ?_ (by with_reducible assumption)))))).mono ?_); rintro e w3 ⟨rfl, rfl⟩))
      all_goals
        go_wp2_with (fail)
        go_ret3
        exact DecFPost.bad 4 (ht.out.symm.trans (decF_e4 h8' Hh.out)) (hch1.trans (show Chg [] w1 _ from (by repeat' (first | (with_reducible assumption) | (with_reducible exact Chg.refl _ _) | (with_reducible refine Chg.alloc ?_ _) | (with_reducible refine Chg.drewN ?_ _) | (with_reducible refine Chg.drew ?_) | (with_reducible refine Chg.strW ?_ _ _) | (with_reducible refine Chg.t0 ?_ (by with_reducible assumption))))) (by simp))
end Go.Proofs.Ytkdbjhmffnjimaa
