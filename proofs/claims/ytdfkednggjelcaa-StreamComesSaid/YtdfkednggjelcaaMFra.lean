
/-
  Several texts in one: FraD, FraD2, FraS.
-/
import Derived.Test.YtdfkednggjelcaaFraE
import Derived.Test.YtdfkednggjelcaaMBase
import Derived.Deep.RegionHeld3
import Derived.Deep.DeepCutAuto
import Derived.Deep.CutBlock
import Derived.IntWalk
namespace Go.Proofs.Ytdfkednggjelcaa
open Go.RowKit
set_option linter.unusedVariables false

def DecFPost (w : World) (t : Took) (e : Ending) (w' : World) : Prop := ∃ A c, e = .returned (.tuple #[.slice A t.p.length c, .int .i64 t.n, .int .i64 t.e]) ∧ w'.ownsRow w.heap.size 5 1 (.slice A t.p.length c) t.p.length (cB t.p) ∧ Chg [] w w'
theorem DecFPost.bad {w w' : World} {t : Took} (n : Nat) (ht : t = ⟨[], 0, n⟩) (h : Chg [] w w') : DecFPost w t (.returned (.tuple #[.slice none 0 0, .int .i64 0, .int .i64 n])) w' := by
  subst ht
  exact ⟨none, 0, rfl, own_none _ _ _ _, h⟩
theorem decF_e4 {L : List UInt8} (h : 8 ≤ L.length) (h2 : L.take 8 ≠ headF (ofFour L)) : decF L = ⟨[], 0, 4⟩ := by unfold decF; rw [if_neg (by omega), if_pos h2]
theorem decF_e5 {L : List UInt8} (h : 8 ≤ L.length) (h2 : L.take 8 = headF (ofFour L)) (h3 : 262144 < ofFour L) : decF L = ⟨[], 0, 5⟩ := by unfold decF; rw [if_neg (by omega), if_neg (by simpa using h2), if_pos h3]
theorem decF_e2' {L : List UInt8} (h : 8 ≤ L.length) (h2 : L.take 8 = headF (ofFour L)) (h3 : ofFour L ≤ 262144) (h4 : L.length < 12 + ofFour L) : decF L = ⟨[], 0, 2⟩ := by unfold decF; rw [if_neg (by omega), if_neg (by simpa using h2), if_neg (by omega), if_pos h4]
theorem decF_e4' {L : List UInt8} (h2 : L.take 8 = headF (ofFour L)) (h3 : ofFour L ≤ 262144) (h4 : 12 + ofFour L ≤ L.length) (h5 : ofFour (L.drop (8 + ofFour L)) ≠ crc (L.take (8 + ofFour L))) : decF L = ⟨[], 0, 4⟩ := by unfold decF; rw [if_neg (by omega), if_neg (by simpa using h2), if_neg (by omega), if_neg (by omega), if_pos h5]

end Go.Proofs.Ytdfkednggjelcaa
namespace Go.Proofs.Ytdfkednggjelcaa
open Go.RowKit
set_option linter.unusedVariables false

theorem refFromFour_to (w : World) (A : Option Addr) (n c : Nat) (L : List UInt8) (x : Nat) (hx : ofFour L = x) (hn : L.length = n) (hr : Rd w 1 A L.length (cB L)) (h4 : 4 ≤ L.length) (hl : L.length ≤ 1099511627776) :
    Calls Try.prog 63 #[.slice A n c] w fun e w' => e = .returned (.int .u32 (x : Int)) ∧ Chg [] w w' := by
  subst hx
  exact refFromFour_any w A n c L hn hr h4 hl
theorem refSum_to (w : World) (A : Option Addr) (n c : Nat) (bs : List UInt8) (x : Nat) (hx : crc bs = x) (hn : bs.length = n) (hr : Rd w 1 A bs.length (cB bs)) (hlen : bs.length ≤ 140737488355328) :
    Calls Try.prog 64 #[.slice A n c] w fun e w' => e = .returned (.int .u32 (x : Int)) ∧ w = w' := by
  subst hx
  exact refSum_any w A n c bs hn hr hlen

set_option maxRecDepth 100000 in
set_option maxHeartbeats 1600000 in
theorem refDecF_any (w : World) (A : Option Addr) (n c : Nat) (L : List UInt8) (hn : L.length = n) (hr : Rd w 1 A L.length (cB L)) (hc : L.length ≤ c) (hl : L.length ≤ 1099511627776) :
    Calls Try.prog 45 #[.slice A n c] w (DecFPost w (decF L)) := by
  subst hn
  have HR := Lib.hid hr
  clear hr
  obtain ⟨i0, hi, hz0, hz1, hz2⟩ := info_parts info8
  obtain ⟨t, ht⟩ : ∃ t, Hid (decF L = t) := ⟨_, rfl⟩
  rw [ht.out]
  by_cases h8 : L.length < 8
  · go_enter Try.func45, Try.ntmps45
    go_wp2_with (fail)
    go_ret3
    exact DecFPost.bad 2 (ht.out.symm.trans (decF_e2 h8)) (Chg.refl _ _)
  · have h8' : 8 ≤ L.length := by omega
    have r4 := Lib.hid (HR.out.takeB (k := 4) (by omega))
    have l4 : Hid ((L.take 4).length = 4) := by unfold Hid; rw [List.length_take]; omega
    have q4 := Lib.hid (HR.out.dropB (k := 4) (c := c) (by omega) hc)
    have m4 : Hid ((L.drop 4).length = L.length - 4) := by unfold Hid; rw [List.length_drop]
    have s4 := fun w => run_slice_hi (P := Try.prog) w Try.underlying47 hi A L.length c 4 4 rfl (by omega)
    have t4 := fun w => run_slice_lo (P := Try.prog) w Try.underlying47 hi hz1 A L.length c 4 4 rfl (by omega)
    have Hh := Lib.hid (head_iff h8')
    have hx := ofFour_lt (L.drop 4)
    have hy := crc_lt (L.take 4)
    obtain ⟨x, hX⟩ : ∃ x, Hid (ofFour (L.drop 4) = x) := ⟨_, rfl⟩
    obtain ⟨y, hY⟩ : ∃ y, Hid (crc (L.take 4) = y) := ⟨_, rfl⟩
    rw [hX.out, hY.out] at Hh
    rw [hX.out] at hx
    rw [hY.out] at hy
    have hF := ofFour_lt L
    obtain ⟨v, hv⟩ : ∃ v, Hid (ofFour L = v) := ⟨_, rfl⟩
    rw [hv.out] at hF
    by_cases hxy : x = y
    · have Hxy := Lib.hid (Hh.out.2 hxy)
      have hb : ((x : Int) != (y : Int)) = false := by rw [hxy]; simp
      clear hxy
      go_enter Try.func45, Try.ntmps45
      go_upto_region 4 with (fail)
      go_cut [15] (fun s wx => s = .bool false ∧ Chg [] w wx)
      case first =>
        go_region_held3 (fun _ => True) (first | trivial | fail)
          (first
            | (go_simp; go_at_call 63; (with_reducible refine (refFromFour_to _ _ _ _ (L.drop 4) x hX.out m4.out (Rd.k0 q4.out (by repeat' (first | (with_reducible assumption) | (with_reducible exact Chg.refl _ _) | (with_reducible refine Chg.alloc ?_ _) | (with_reducible refine Chg.drewN ?_ _) | (with_reducible refine Chg.drew ?_) | (with_reducible refine Chg.strW ?_ _ _) | (with_reducible refine Chg.t0 ?_ (by with_reducible assumption))))) (by rw [m4.out]; omega) (by rw [m4.out]; omega)).mono ?_); rintro e w2 ⟨rfl, hch2⟩; have hch02 : Hid (Chg [] w w2) := ((by repeat' (first | (with_reducible assumption) | (with_reducible exact Chg.refl _ _) | (with_reducible refine Chg.alloc ?_ _) | (with_reducible refine Chg.drewN ?_ _) | (with_reducible refine Chg.drew ?_) | (with_reducible refine Chg.strW ?_ _ _) | (with_reducible refine Chg.t0 ?_ (by with_reducible assumption)))) : Chg [] w w2))
            | (go_simp; go_at_call 64; (with_reducible refine (refSum_to _ _ _ _ (L.take 4) y hY.out l4.out (Rd.k0 r4.out (by repeat' (first | (with_reducible assumption) | (with_reducible exact Chg.refl _ _) | (with_reducible refine Chg.alloc ?_ _) | (with_reducible refine Chg.drewN ?_ _) | (with_reducible refine Chg.drew ?_) | (with_reducible refine Chg.strW ?_ _ _) | (with_reducible refine Chg.t0 ?_ (by with_reducible assumption))))) (by rw [l4.out]; omega)).mono ?_); rintro e w2 ⟨rfl, rfl⟩))
        all_goals
          go_wp2_with (fail)
          go_meet
          exact ⟨rfl, (by repeat' (first | (with_reducible assumption) | (with_reducible exact Chg.refl _ _) | (with_reducible refine Chg.alloc ?_ _) | (with_reducible refine Chg.drewN ?_ _) | (with_reducible refine Chg.drew ?_) | (with_reducible refine Chg.strW ?_ _ _) | (with_reducible refine Chg.t0 ?_ (by with_reducible assumption))))⟩
      case rest =>
        obtain ⟨rfl, hch⟩ := hcut
        go_wp2_with (fail)
        refine (refFromFour_to _ _ _ _ L v hv.out rfl (HR.out.keep0 hch) (by omega) hl).mono ?_
        rintro e w1 ⟨rfl, hch1⟩
        have hch01 := hch.trans hch1 (by simp)
        by_cases hv5 : 262144 < v
        · go_wp2_with (fail)
          go_ret3
          exact DecFPost.bad 5 (ht.out.symm.trans (decF_e5 h8' Hxy.out (by rw [hv.out]; exact hv5))) hch01
        · by_cases hln : L.length < 12 + v
          · go_wp2_with (fail)
            go_ret3
            exact DecFPost.bad 2 (ht.out.symm.trans (decF_e2' h8' Hxy.out (by rw [hv.out]; omega) (by rw [hv.out]; exact hln))) hch01
          · have sW := fun w => run_slice_hi (P := Try.prog) w Try.underlying47 hi A L.length c (8 + (v : Int)) (8 + v) (by omega) (by omega)
            have sT := fun w => run_slice_lo (P := Try.prog) w Try.underlying47 hi hz1 A L.length c (8 + (v : Int)) (8 + v) (by omega) (by omega)
            have rT := Lib.hid (HR.out.dropB (k := 8 + v) (c := c) (by omega) hc)
            have rW := Lib.hid (HR.out.takeB (k := 8 + v) (by omega))
            have lT : Hid ((L.drop (8 + v)).length = L.length - (8 + v)) := by unfold Hid; rw [List.length_drop]
            have lW : Hid ((L.take (8 + v)).length = 8 + v) := by unfold Hid; rw [List.length_take]; omega
            have hL := Lib.hid (decF_e4' Hxy.out (by rw [hv.out]; omega) (by rw [hv.out]; omega))
            have hG : Hid (ofFour (L.drop (8 + v)) = crc (L.take (8 + v)) → decF L = ⟨(L.take (8 + v)).drop 8, 12 + v, 0⟩) := fun he => by
              have h1 := decF_good (L := L) ⟨by rw [hv.out]; omega, Hxy.out, by rw [hv.out]; omega, by rw [hv.out]; exact he⟩
              rw [hv.out] at h1; exact h1
            rw [hv.out] at hL
            have hx' := ofFour_lt (L.drop (8 + v))
            have hy' := crc_lt (L.take (8 + v))
            obtain ⟨x', hX'⟩ : ∃ x, Hid (ofFour (L.drop (8 + v)) = x) := ⟨_, rfl⟩
            obtain ⟨y', hY'⟩ : ∃ y, Hid (crc (L.take (8 + v)) = y) := ⟨_, rfl⟩
            rw [hX'.out] at hL hG hx'
            rw [hY'.out] at hL hG hy'
            have e8 : IntKind.i64.wrap (8 + (v : Int)) = 8 + (v : Int) := IntWalk.i64_in _ (by omega)
            have e8n : (8 + (v : Int)).toNat = 8 + v := by omega
            clear hb
            have hsz := hch01.size
            obtain ⟨b, hb⟩ : ∃ b, Hid (((x' : Int) != (y' : Int)) = b) := ⟨_, rfl⟩
            go_upto_region 11 with (fail)
            go_cut [36] (fun s wx => s = .bool b ∧ Chg [] w wx)
            case first =>
              go_region_held3 (fun _ => True) (first | trivial | fail)
                (first
                  | (go_simp; go_at_call 63; (with_reducible refine (refFromFour_to _ _ _ _ (L.drop (8 + v)) x' hX'.out lT.out (Rd.k0 rT.out (hch01.trans (show Chg [] w1 _ from (by repeat' (first | (with_reducible assumption) | (with_reducible exact Chg.refl _ _) | (with_reducible refine Chg.alloc ?_ _) | (with_reducible refine Chg.drewN ?_ _) | (with_reducible refine Chg.drew ?_) | (with_reducible refine Chg.strW ?_ _ _) | (with_reducible refine Chg.t0 ?_ (by with_reducible assumption))))) (by simp))) (by rw [lT.out]; omega) (by rw [lT.out]; omega)).mono ?_); rintro e w2 ⟨rfl, hch2⟩; have hch02 : Hid (Chg [] w1 w2) := ((by repeat' (first | (with_reducible assumption) | (with_reducible exact Chg.refl _ _) | (with_reducible refine Chg.alloc ?_ _) | (with_reducible refine Chg.drewN ?_ _) | (with_reducible refine Chg.drew ?_) | (with_reducible refine Chg.strW ?_ _ _) | (with_reducible refine Chg.t0 ?_ (by with_reducible assumption)))) : Chg [] w1 w2))
                  | (go_simp; go_at_call 64; (with_reducible refine (refSum_to _ _ _ _ (L.take (8 + v)) y' hY'.out lW.out (Rd.k0 rW.out (hch01.trans (show Chg [] w1 _ from (by repeat' (first | (with_reducible assumption) | (with_reducible exact Chg.refl _ _) | (with_reducible refine Chg.alloc ?_ _) | (with_reducible refine Chg.drewN ?_ _) | (with_reducible refine Chg.drew ?_) | (with_reducible refine Chg.strW ?_ _ _) | (with_reducible refine Chg.t0 ?_ (by with_reducible assumption))))) (by simp))) (by rw [lW.out]; omega)).mono ?_); rintro e w2 ⟨rfl, rfl⟩))
              all_goals
                go_wp2_with (fail)
                go_meet
                exact ⟨by rw [hb.out], hch01.trans (show Chg [] w1 _ from (by repeat' (first | (with_reducible assumption) | (with_reducible exact Chg.refl _ _) | (with_reducible refine Chg.alloc ?_ _) | (with_reducible refine Chg.drewN ?_ _) | (with_reducible refine Chg.drew ?_) | (with_reducible refine Chg.strW ?_ _ _) | (with_reducible refine Chg.t0 ?_ (by with_reducible assumption))))) (by simp)⟩
            case rest =>
              obtain ⟨rfl, hch3⟩ := hcut
              clear sW sT e8 e8n
              cases b
              · have hxy' : x' = y' := by
                  have h1 := hb.out
                  simp at h1; omega
                have sB := fun w => run_slice_both (P := Try.prog) w Try.underlying47 hi hz1 A L.length c 8 (8 + (v : Int)) 8 (8 + v) (by omega) (by omega) (by omega) (by omega)
                have rC := Lib.hid ((Rd.dropB (L := L.take (8 + v)) rW.out (k := 8) (c := c) (by rw [lW.out]; omega) (by rw [lW.out]; omega)))
                have lC : Hid (((L.take (8 + v)).drop 8).length = v) := by unfold Hid; rw [List.length_drop, lW.out]; omega
                have HT := Lib.hid (ht.out.symm.trans (hG.out hxy'))
                clear hxy'
                have rC' : Rd wc 1 (cutA A c 8 1) v (cB ((L.take (8 + v)).drop 8)) := by
                  have h1 := rC.out.keep0 hch3
                  rw [lC.out] at h1
                  exact h1
                go_wp2_with (at_builtin; refine wpList_append_rd _ rfl (.tmp 37) (.tmp 41) 47 (by rfl) wc.heap.size 5 i0 _ 1 1 Try.underlying47 hi hz0 hz1 hz2 rfl (by omega) (.slice (some ⟨wc.heap.size, 0, none⟩) 0 0) 0 [] (by rfl) (World.ownsRow_made wc #[] 0 (Nat.le_refl _) (by simp [maxLen]) rfl) (cutA A c 8 1) v (c - 8) (cB ((L.take (8 + v)).drop 8)) (by rfl) (rC'.alloc _) (cB_one _) (by unfold maxLen; omega) (by omega) (by simp) ?_; intro A3 c3 w3 hown3 hg3 hb3)
                have hch4 : Chg [] wc w3 := ((Chg.refl [] wc).alloc _).grown hg3 (fun k hk => .inr (by simp [Value.ownBlock] at hk; omega))
                simp only [Nat.zero_add, List.nil_append] at hown3
                go_ret3
                have ht' := HT.out
                subst ht'
                refine ⟨A3, c3, ?_, ?_, hch3.trans hch4 (by simp)⟩
                · simp only [lC.out]
                  show Ending.returned (.tuple #[.slice A3 v c3, .int .i64 (12 + (v : Int)), .int .i64 0]) = _
                  rw [show (12 + (v : Int)) = ((12 + v : Nat) : Int) by omega]
                  rfl
                · simp only [lC.out]
                  exact own_up hown3 hch3.size
              · have hxy' : x' ≠ y' := by
                  have h1 := hb.out
                  simp at h1; omega
                have HT := Lib.hid (ht.out.symm.trans (hL.out hxy'))
                clear hxy'
                go_wp2_with (fail)
                go_ret3
                exact DecFPost.bad 4 HT.out hch3
    · have hb : ((x : Int) != (y : Int)) = true := by rw [bne_iff_ne]; omega
      have Hxy := Lib.hid (fun h => hxy (Hh.out.1 h))
      clear hxy
      go_enter Try.func45, Try.ntmps45
      go_wp2_with (fail)
      go_region_held3 (fun _ => True) (first | trivial | fail)
        (first
          | (go_simp; go_at_call 63; (with_reducible refine (refFromFour_to _ _ _ _ (L.drop 4) x hX.out m4.out (Rd.k0 q4.out (by repeat' (first | (with_reducible assumption) | (with_reducible exact Chg.refl _ _) | (with_reducible refine Chg.alloc ?_ _) | (with_reducible refine Chg.drewN ?_ _) | (with_reducible refine Chg.drew ?_) | (with_reducible refine Chg.strW ?_ _ _) | (with_reducible refine Chg.t0 ?_ (by with_reducible assumption))))) (by rw [m4.out]; omega) (by rw [m4.out]; omega)).mono ?_); rintro e w2 ⟨rfl, hch2⟩; have hch02 : Hid (Chg [] w w2) := ((by repeat' (first | (with_reducible assumption) | (with_reducible exact Chg.refl _ _) | (with_reducible refine Chg.alloc ?_ _) | (with_reducible refine Chg.drewN ?_ _) | (with_reducible refine Chg.drew ?_) | (with_reducible refine Chg.strW ?_ _ _) | (with_reducible refine Chg.t0 ?_ (by with_reducible assumption)))) : Chg [] w w2))
          | (go_simp; go_at_call 64; (with_reducible refine (refSum_to _ _ _ _ (L.take 4) y hY.out l4.out (Rd.k0 r4.out (by repeat' (first | (with_reducible assumption) | (with_reducible exact Chg.refl _ _) | (with_reducible refine Chg.alloc ?_ _) | (with_reducible refine Chg.drewN ?_ _) | (with_reducible refine Chg.drew ?_) | (with_reducible refine Chg.strW ?_ _ _) | (with_reducible refine Chg.t0 ?_ (by with_reducible assumption))))) (by rw [l4.out]; omega)).mono ?_); rintro e w2 ⟨rfl, rfl⟩))
      all_goals
        go_wp2_with (fail)
        go_ret3
        exact DecFPost.bad 4 (ht.out.symm.trans (decF_e4 h8' Hxy.out)) (by repeat' (first | (with_reducible assumption) | (with_reducible exact Chg.refl _ _) | (with_reducible refine Chg.alloc ?_ _) | (with_reducible refine Chg.drewN ?_ _) | (with_reducible refine Chg.drew ?_) | (with_reducible refine Chg.strW ?_ _ _) | (with_reducible refine Chg.t0 ?_ (by with_reducible assumption))))
end Go.Proofs.Ytdfkednggjelcaa
namespace Go.Proofs.Ytdfkednggjelcaa
open Go.RowKit
set_option linter.unusedVariables false

def oneF (L : List UInt8) : List UInt8 × Nat := if (decF L).e = 0 ∧ (decF L).n ≠ L.length then ([], 3) else ((decF L).p, (decF L).e)
def OneFPost (w : World) (t : List UInt8 × Nat) (e : Ending) (w' : World) : Prop := ∃ A c, e = .returned (.tuple #[.slice A t.1.length c, .int .i64 t.2]) ∧ w'.ownsRow w.heap.size 5 1 (.slice A t.1.length c) t.1.length (cB t.1) ∧ Chg [] w w'
theorem oneF_3 {L : List UInt8} (h : (decF L).e = 0) (h2 : (decF L).n ≠ L.length) : oneF L = ([], 3) := by unfold oneF; rw [if_pos ⟨h, h2⟩]
theorem oneF_0 {L : List UInt8} (h : (decF L).e = 0) (h2 : (decF L).n = L.length) : oneF L = ((decF L).p, 0) := by unfold oneF; rw [if_neg (by simp [h2]), h]
theorem oneF_e {L : List UInt8} (h : (decF L).e ≠ 0) : oneF L = ([], (decF L).e) := by unfold oneF; rw [if_neg (by simp [h]), (decF_bad h).1]
theorem OneFPost.bad {w w' : World} {t : List UInt8 × Nat} (n : Nat) (ht : t = ([], n)) (h : Chg [] w w') : OneFPost w t (.returned (.tuple #[.slice none 0 0, .int .i64 n])) w' := by
  subst ht
  exact ⟨none, 0, rfl, own_none _ _ _ _, h⟩
theorem OneFPost.is {w w' : World} {t : List UInt8 × Nat} {A : Option Addr} {n c : Nat} {z : Int} (p : List UInt8) (k : Nat) (ht : t = (p, k)) (hn : p.length = n) (hz : z = (k : Int)) (ho : w'.ownsRow w.heap.size 5 1 (.slice A n c) n (cB p)) (h : Chg [] w w') : OneFPost w t (.returned (.tuple #[.slice A n c, .int .i64 z])) w' := by
  subst ht hn hz
  exact ⟨A, c, rfl, ho, h⟩

/-! ### Scan -/

theorem own_ne {w : World} {b b' : Nat} {e e' : TypeId} {s s' n n' : Nat} {v v' : Value} {xs ys : List Value} (h : w.ownsRow b e s v n xs) (h' : w.ownsRow b' e' s' v' n' ys) (hne : e ≠ e') : ∀ k, v.ownBlock = some k → v'.ownBlock ≠ some k := by
  intro k hk hk'
  rcases h'.2 with ⟨rfl, _⟩ | ⟨g', cap, cur, rfl, _, hh, _⟩
  · simp [Value.ownBlock] at hk'
  · have hg : g' = k := by simpa [Value.ownBlock] using hk'
    subst hg
    exact own_at_ne h (show At w g' e' cur from hh) hne _ hk rfl
/-- Rows of bytes, a row of their own each. -/
def OwnB (w : World) (base : Nat) (r : SlB) : Prop := w.ownsRow base 5 1 (.slice r.A r.bs.length r.c) r.bs.length (cB r.bs)
def ScanPost (w : World) (L : List UInt8) (e : Ending) (w' : World) : Prop := ∃ A c ls, e = .returned (.tuple #[.slice A ls.length c, .int .i64 ((scanF L).2 : Nat)]) ∧ ls.map SlB.bs = (scanF L).1 ∧ w'.ownsRow w.heap.size 47 1 (.slice A ls.length c) ls.length (cR ls) ∧ (∀ r ∈ ls, OwnB w' w.heap.size r) ∧ Chg [] w w'
theorem info_b : (Try.prog.info? 47).map (fun i => (i.zero, i.size, i.bytes)) = some (some (.slice none 0 0), 1, 24) := by kernel_rfl
theorem cR_app (a b : List SlB) : cR (a ++ b) = cR a ++ cR b := by simp [cR]

end Go.Proofs.Ytdfkednggjelcaa
