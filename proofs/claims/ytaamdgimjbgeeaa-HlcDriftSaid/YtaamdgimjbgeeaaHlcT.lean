/-
  The reference's Clock (chapter 10): Hear.
-/
import Derived.Test.YtaamdgimjbgeeaaHlcS
namespace Go.Proofs.Ytaamdgimjbgeeaa
open Go.RowKit

set_option maxHeartbeats 1600000 in
theorem refHear_any (w : World) (B : Nat) (l : St) (b n : Int) (A : Option Addr) (k c : Nat) (xs : List St) (hk : xs.length = k) (hA : At w B 65 (clkC l b)) (hr : Rd w 2 A xs.length (cS xs)) (hAw : Away A xs.length [B]) (hl : xs.length ≤ 65536) :
    Calls Try.prog 31 #[.pointer (some ⟨B, 0, none⟩), .int .i64 n, .slice A k c] w (HearPost w B 65 l b n xs) := by
  subst hk
  obtain ⟨lm, lc⟩ := l
  have hB := hA.lt
  by_cases hbad : n < 0 ∨ 281474976710655 < n
  · have hF : hearF n xs = 1 := by unfold hearF; rw [if_pos hbad]
    have hL : hearL ⟨lm, lc⟩ n xs = ⟨lm, lc⟩ := by unfold hearL; rw [hF]; rfl
    unfold HearPost
    rw [hF, hL]
    clear hF hL
    rcases hbad with hbad | hbad
    · go_enter Try.func31, Try.ntmps31
      go_wp2_with (fail)
      go_ret
      exact ⟨rfl, hA, Chg.refl _ _⟩
    · have h0 : 0 ≤ n := by omega
      go_enter Try.func31, Try.ntmps31
      go_wp2_with (fail)
      go_ret
      exact ⟨rfl, hA, Chg.refl _ _⟩
  · have h0 : 0 ≤ n := by omega
    have h1 : n ≤ 281474976710655 := by omega
    go_enter Try.func31, Try.ntmps31
    go_wp2_with (fail)
    go_loopw [7] (fun i wr => ∃ k : Nat, k ≤ xs.length ∧ i = .int .i64 k ∧ Hid ((xs.take k).all (fun s => isS s.m s.c) = true) ∧ Chg [] w wr) (fun i _ => xs.length - (intOf i).toNat)
    case atStart => exact ⟨0, Nat.zero_le _, rfl, by simp [Hid], Chg.refl _ _⟩
    case round =>
      obtain ⟨k, hk, rfl, HP, hch⟩ := hrel
      by_cases hlt : k < xs.length
      · obtain ⟨ad, rfl, had, hc0, hc1⟩ := (hr.keep0 hch).getS hlt
        have HT : Hid (xs.take (k + 1) = xs.take k ++ [xs[k]]) := List.take_succ_eq_append_getElem hlt
        have HM : Hid (xs[k] ∈ xs) := List.getElem_mem hlt
        generalize xs[k] = s at *
        go_wp2_with (fail)
        by_cases hs : isS s.m s.c = true
        · refine (refIs_yes _ _ _ hs).mono ?_
          rintro e w3 ⟨rfl, hch3⟩
          have Hs := Lib.hid hs
          clear hs
          go_wp2_with (fail)
          go_roundw
          case rel => exact ⟨k + 1, by omega, by go_num, by unfold Hid; rw [HT.out, List.all_append, HP.out]; simp [Hs.out], hch.trans hch3 (by simp)⟩
          case measure => simp [intOf]; omega
        · have hs' : isS s.m s.c = false := by simpa using hs
          clear hs
          refine (refIs_no _ _ _ hs').mono ?_
          rintro e w3 ⟨rfl, hch3⟩
          have Hs := Lib.hid hs'
          clear hs'
          have HF : Hid (hearF n xs = 1) := by
            unfold Hid hearF
            rw [if_neg hbad, if_pos]
            rw [List.all_eq_false]
            exact ⟨s, HM.out, by rw [Hs.out]; simp⟩
          have HL : Hid (hearL ⟨lm, lc⟩ n xs = ⟨lm, lc⟩) := by unfold Hid hearL; rw [HF.out]; rfl
          have hch4 : Chg [] w w3 := hch.trans hch3 (by simp)
          go_wp2_with (fail)
          go_ret
          exact ⟨by rw [HF.out]; rfl, by rw [HL.out]; exact hA.keep hch4 (by simp), hch4.mono (by simp)⟩
      · obtain rfl : k = xs.length := by omega
        have HP0 : Hid (xs.all (fun s => isS s.m s.c) = true) := by have h := HP.out; rw [List.take_length] at h; exact h
        clear HP
        obtain ⟨w1, hw1⟩ : ∃ w1 : World, w1 = wr := ⟨_, rfl⟩
        subst hw1
        go_wp2_with (fail)
        go_loopw [8] (fun i wr => ∃ k : Nat, k ≤ xs.length ∧ i = .int .i64 k ∧ Hid ((xs.take k).any (fun s => decide (n + 60000 < s.m)) = false) ∧ Chg [] w wr) (fun i _ => xs.length - (intOf i).toNat)
        case atStart => exact ⟨0, Nat.zero_le _, rfl, by simp [Hid], hch⟩
        case round =>
          clear hch
          obtain ⟨k, hk, rfl, HQ, hch⟩ := hrel
          by_cases hlt : k < xs.length
          · obtain ⟨ad, rfl, had, hc0, hc1⟩ := (hr.keep0 hch).getS hlt
            have HT : Hid (xs.take (k + 1) = xs.take k ++ [xs[k]]) := List.take_succ_eq_append_getElem hlt
            have HM : Hid (xs[k] ∈ xs) := List.getElem_mem hlt
            generalize xs[k] = s at *
            by_cases hfar : n + 60000 < s.m
            · have HF : Hid (hearF n xs = 16) := by
                unfold Hid hearF
                rw [if_neg hbad, if_neg (by rw [HP0.out]; simp), if_pos]
                rw [List.any_eq_true]
                exact ⟨s, HM.out, by simpa using hfar⟩
              have HL : Hid (hearL ⟨lm, lc⟩ n xs = ⟨lm, lc⟩) := by unfold Hid hearL; rw [HF.out]; rfl
              go_wp2_with (fail)
              go_ret
              exact ⟨by rw [HF.out]; rfl, by rw [HL.out]; exact hA.keep hch (by simp), hch.mono (by simp)⟩
            · have Hfar := Lib.hid hfar
              go_wp2_with (fail)
              go_roundw
              case rel => exact ⟨k + 1, by omega, by go_num, by unfold Hid; rw [HT.out, List.any_append, HQ.out]; simpa using Hfar.out, hch⟩
              case measure => simp [intOf]; omega
          · obtain rfl : k = xs.length := by omega
            have HF : Hid (hearF n xs = 0) := by
              have h := HQ.out
              rw [List.take_length] at h
              unfold Hid hearF
              rw [if_neg hbad, if_neg (by rw [HP0.out]; simp), if_neg (by rw [h]; simp)]
            have HL : Hid (hearL ⟨lm, lc⟩ n xs = maxS (xs ++ [⟨lm, lc⟩])) := by unfold Hid hearL; rw [HF.out]; rfl
            have hA1 := hA.keep hch (by simp)
            have hr1 := hr.keep0 hch
            have a0 := hA1.cell 0
            have a1 := hA1.cell 1
            simp only [clkC] at a0 a1
            have f0 := hA1.free 0
            have f1 := hA1.free 1
            obtain ⟨i0, hi, hz0, hz1, hz2⟩ := info_parts info_st
            clear HP0 HQ hbad
            rw [← maxS_rot] at HL
            go_wp2_with (first
              | (at_builtin; refine wpList_append_rd _ rfl (.tmp 46) (.tmp 47) 22 (by rfl) wr.heap.size 24 i0 (.agg #[.int .i64 0, .int .i64 0]) 2 16 Try.underlying22 hi hz0 hz1 hz2 rfl (by omega) (.slice (some ⟨wr.heap.size, 0, none⟩) 1 1) 1 (cS [⟨lm, lc⟩]) (by rfl) (own_full (Nat.le_refl _) rfl rfl rfl (by simp [maxLen])) A xs.length c (cS xs) (by rfl) (hr1.alloc _) (cS_one _) (by unfold maxLen; omega) (by omega) (by simp) ?_; intro A2 c2 w2 hown hgrow hblk; have hch2 : Chg [] wr w2 := ((Chg.refl [] wr).alloc _).grown hgrow (fun k hk => .inr (by simp [Value.ownBlock] at hk; omega)); have hA2 := hA1.keep hch2 (by simp))
              | (go_at_call 22; refine (refMax_any w2 A2 _ c2 (⟨lm, lc⟩ :: xs) (by simp; omega) (by have h := Rd.of_own hown; rw [← cS_app, Nat.add_comm] at h; exact h) (by simp; omega)).mono ?_; rintro e w3 ⟨rfl, hch3⟩; have hA3 := hA2.keep hch3 (by simp); have d0 := hA3.cell 0; have d1 := hA3.cell 1; simp only [clkC] at d0 d1; have e0 := hA3.free 0; have e1 := hA3.free 1))
            go_ret
            refine ⟨by rw [HF.out]; rfl, by rw [HL.out]; exact (show At w3 B 65 #[_, _, _] from hA3).set3 _ _, ?_⟩
            exact (((hch.trans hch2 (by simp)).trans hch3 (by simp)).mono (by simp)).set2 (.inl (by simp)) _ _
end Go.Proofs.Ytaamdgimjbgeeaa
