/-
  hlc.Clock's Hear.
-/
import Derived.Test.YtaamdgimjbgeeaaHlcK
import Derived.Deep.RegionLawGrows
namespace Go.Proofs.Ytaamdgimjbgeeaa
open Go.RowKit
attribute [local go_sem ↓] Go.wp_at_zero Go.wp_at_succ

theorem info_st : (Try.prog.info? 24).map (fun i => (i.zero, i.size, i.bytes)) = some (some (.agg #[.int .i64 0, .int .i64 0]), 2, 16) := by kernel_rfl

theorem cells_new (w : World) (l : List Value) (t : TypeId) : ∀ j u, l[j]? = some u → (w.alloc (.cells l.toArray t)).cell? ((⟨w.heap.size, 0, none⟩ : Addr).add j) = some u := by
  intro j u hu
  have e : (⟨w.heap.size, 0, none⟩ : Addr).add j = ⟨w.heap.size, j, none⟩ := by unfold Addr.add; split <;> simp_all
  rw [e, (At.new w t l.toArray).cell j]; simpa using hu
theorem Rd.holds {w : World} {size n : Nat} {A : Option Addr} {xs : List Value} (h : Rd w size A n xs) : ∀ b, A = some b → ∀ j u, xs[j]? = some u → w.cell? (b.add j) = some u := by
  intro b hb j u hu
  rcases Nat.eq_zero_or_pos n with h0 | h0
  · have : xs = [] := List.eq_nil_of_length_eq_zero (by rw [h.len, h0, Nat.zero_mul])
    rw [this] at hu; simp at hu
  · obtain ⟨ad, h1, _, h2⟩ := h.at_ h0
    rw [hb] at h1
    injection h1 with h1
    subst h1
    exact h2 j u hu
theorem Rd.none0 {w : World} {size n : Nat} {A : Option Addr} {xs : List Value} (h : Rd w size A n xs) : A = none → n = 0 ∧ n = 0 := by
  rintro rfl
  rcases Nat.eq_zero_or_pos n with h0 | h0
  · exact ⟨h0, h0⟩
  · obtain ⟨ad, h1, _⟩ := h.at_ h0
    cases h1
theorem run_slice_full {P : Program} (w : World) {t e : TypeId} {i : TypeInfo} (ht : P.underlying t = some (.slice e)) (hi : P.info? e = some i)
    (A : Option Addr) (len cap : Nat) (k : Nat) (hk : k ≤ cap) :
    (Instr.slice t (.slice A len cap) none (some (.int .i64 (k : Int))) (some (.int .i64 (k : Int)))).run P w = .ok (.slice A k k) w := by
  have h1 : (k : Int) ≤ (cap : Int) := by omega
  have h2 : (A.map (·.add 0)) = A := by cases A <;> simp [add_zero]
  simp [Instr.slice, run_underlying ht, Instr.sliceBounds, run_sliceBound, sizeOf, typeInfo, hi, h1, h2]

/-- What Hear answers; the last stamp behind it. -/
def hearF (n : Int) (xs : List St) : Int :=
  if n < 0 ∨ 281474976710655 < n then 1 else if xs.all (fun s => isS s.m s.c) = false then 1 else if xs.any (fun s => decide (n + 60000 < s.m)) = true then 16 else 0
def hearL (l : St) (n : Int) (xs : List St) : St := if hearF n xs = 0 then maxS (xs ++ [l]) else l
def HearPost (w : World) (B : Nat) (T : TypeId) (l : St) (b n : Int) (xs : List St) (e : Ending) (w' : World) : Prop := e = .returned (.int .i64 (hearF n xs)) ∧ At w' B T (clkC (hearL l n xs) b) ∧ Chg [B] w w'

set_option maxHeartbeats 1600000 in
theorem hear_any (w : World) (B : Nat) (l : St) (b n : Int) (A : Option Addr) (k c : Nat) (xs : List St) (hk : xs.length = k) (hA : At w B 75 (clkC l b)) (hr : Rd w 2 A xs.length (cS xs)) (hAw : Away A xs.length [B]) (hl : xs.length ≤ 65536) (hc : xs.length ≤ c) :
    Calls Try.prog 19 #[.pointer (some ⟨B, 0, none⟩), .int .i64 n, .slice A k c] w (HearPost w B 75 l b n xs) := by
  subst hk
  obtain ⟨lm, lc⟩ := l
  have hB := hA.lt
  by_cases hbad : n < 0 ∨ 281474976710655 < n
  · have hF : hearF n xs = 1 := by unfold hearF; rw [if_pos hbad]
    have hL : hearL ⟨lm, lc⟩ n xs = ⟨lm, lc⟩ := by unfold hearL; rw [hF]; rfl
    unfold HearPost
    rw [hF, hL]
    clear hF hL
    go_enter Try.func19, Try.ntmps19
    go_wp2_with (go_at_call 36; refine (isMilli_no _ _ hbad).mono ?_; rintro e w' ⟨rfl, rfl⟩)
    go_ret
    exact ⟨rfl, hA, Chg.refl _ _⟩
  · have h0 : 0 ≤ n := by omega
    have h1 : n ≤ 281474976710655 := by omega
    go_enter Try.func19, Try.ntmps19
    go_wp2_with (go_at_call 36; refine (isMilli_yes _ _ h0 h1).mono ?_; rintro e w' ⟨rfl, rfl⟩)
    go_loopw [20] (fun i wr => ∃ k : Nat, k ≤ xs.length ∧ i = .int .i64 k ∧ Hid ((xs.take k).all (fun s => isS s.m s.c) = true) ∧ Chg [] w wr) (fun i _ => xs.length - (intOf i).toNat)
    case atStart => exact ⟨0, Nat.zero_le _, rfl, by simp [Hid], Chg.refl _ _⟩
    case round =>
      obtain ⟨k, hk, rfl, HP, hch⟩ := hrel
      by_cases hlt : k < xs.length
      · obtain ⟨ad, rfl, had, hc0, hc1⟩ := (hr.keep0 hch).getS hlt
        have HT : Hid (xs.take (k + 1) = xs.take k ++ [xs[k]]) := List.take_succ_eq_append_getElem hlt
        have HM : Hid (xs[k] ∈ xs) := List.getElem_mem hlt
        generalize xs[k] = s at *
        go_wp2_with (fail)
        by_cases hs : isS s.m s.c = true
        · refine (is_yes _ _ _ hs).mono ?_
          rintro e w3 ⟨rfl, hch3⟩
          have Hs := Lib.hid hs
          clear hs
          go_wp2_with (fail)
          go_roundw
          case rel => exact ⟨k + 1, by omega, by go_num, by unfold Hid; rw [HT.out, List.all_append, HP.out]; simp [Hs.out], (hch.alloc _).trans hch3 (by simp)⟩
          case measure => simp [intOf]; omega
        · have hs' : isS s.m s.c = false := by simpa using hs
          clear hs
          refine (is_no _ _ _ hs').mono ?_
          rintro e w3 ⟨rfl, hch3⟩
          have Hs := Lib.hid hs'
          clear hs'
          have HF : Hid (hearF n xs = 1) := by
            unfold Hid hearF
            rw [if_neg hbad, if_pos]
            rw [List.all_eq_false]
            exact ⟨s, HM.out, by rw [Hs.out]; simp⟩
          have HL : Hid (hearL ⟨lm, lc⟩ n xs = ⟨lm, lc⟩) := by unfold Hid hearL; rw [HF.out]; rfl
          have hch4 : Chg [] w w3 := (hch.alloc _).trans hch3 (by simp)
          go_wp2_with (fail)
          go_ret
          exact ⟨by rw [HF.out]; rfl, by rw [HL.out]; exact hA.keep hch4 (by simp), hch4.mono (by simp)⟩
      · obtain rfl : k = xs.length := by omega
        have HP0 : Hid (xs.all (fun s => isS s.m s.c) = true) := by have h := HP.out; rw [List.take_length] at h; exact h
        clear HP
        obtain ⟨w1, hw1⟩ : ∃ w1 : World, w1 = wr := ⟨_, rfl⟩
        subst hw1
        go_wp2_with (fail)
        go_loopw [30] (fun i wr => ∃ k : Nat, k ≤ xs.length ∧ i = .int .i64 k ∧ Hid ((xs.take k).any (fun s => decide (n + 60000 < s.m)) = false) ∧ Chg [] w wr) (fun i _ => xs.length - (intOf i).toNat)
        case atStart => exact ⟨0, Nat.zero_le _, rfl, by simp [Hid], hch⟩
        case round =>
          clear hch
          obtain ⟨k, hk, rfl, HQ, hch⟩ := hrel
          by_cases hlt : k < xs.length
          · obtain ⟨ad, rfl, had, hc0, hc1⟩ := (hr.keep0 hch).getS hlt
            have HT : Hid (xs.take (k + 1) = xs.take k ++ [xs[k]]) := List.take_succ_eq_append_getElem hlt
            have HM : Hid (xs[k] ∈ xs) := List.getElem_mem hlt
            generalize xs[k] = s at *
            by_cases hfar : n + 60000 < s.m
            · have HF : Hid (hearF n xs = 16) := by
                unfold Hid hearF
                rw [if_neg hbad, if_neg (by rw [HP0.out]; simp), if_pos]
                rw [List.any_eq_true]
                exact ⟨s, HM.out, by simpa using hfar⟩
              have HL : Hid (hearL ⟨lm, lc⟩ n xs = ⟨lm, lc⟩) := by unfold Hid hearL; rw [HF.out]; rfl
              go_wp2_with (fail)
              go_ret
              exact ⟨by rw [HF.out]; rfl, by rw [HL.out]; exact hA.keep (hch.alloc _) (by simp), (hch.alloc _).mono (by simp)⟩
            · have Hfar := Lib.hid hfar
              go_wp2_with (fail)
              go_roundw
              case rel => exact ⟨k + 1, by omega, by go_num, by unfold Hid; rw [HT.out, List.any_append, HQ.out]; simpa using Hfar.out, hch.alloc _⟩
              case measure => simp [intOf]; omega
          · obtain rfl : k = xs.length := by omega
            have HF : Hid (hearF n xs = 0) := by
              have h := HQ.out
              rw [List.take_length] at h
              unfold Hid hearF
              rw [if_neg hbad, if_neg (by rw [HP0.out]; simp), if_neg (by rw [h]; simp)]
            have HL : Hid (hearL ⟨lm, lc⟩ n xs = maxS (xs ++ [⟨lm, lc⟩])) := by unfold Hid hearL; rw [HF.out]; rfl
            have hA1 := hA.keep hch (by simp)
            have hr1 := hr.keep0 hch
            have a0 := hA1.cell 0
            have a1 := hA1.cell 1
            simp only [clkC] at a0 a1
            have f0 := hA1.free 0
            have f1 := hA1.free 1
            obtain ⟨i0, hi, hz0, hz1, hz2⟩ := info_parts info_st
            have hsl := fun w => run_slice_full (P := Try.prog) w Try.underlying22 hi A xs.length c xs.length hc
            have hnone := hr1.none0
            have hB1 := hA1.lt
            have hne0 := World.new_ne wr ⟨B, 0, none⟩ a0
            have hne1 := World.new_ne wr ⟨B, 1, none⟩ a1
            clear HP0 HQ hbad
            go_wp2_with (fail)
            go_region_law
              (first
                | (refine step_append_grows (by rfl) (.tmp 46) (.tmp 51) 22 (by rfl) 24 i0 (.agg #[.int .i64 0, .int .i64 0]) 2 16 Try.underlying22 hi hz0 hz1 hz2 rfl (by omega) A xs.length xs.length (cS xs) (by rfl) hnone (cS_len xs) ?_ ⟨wr.heap.size, 0, none⟩ 1 1 (cS [⟨lm, lc⟩]) (by rfl) rfl ?_ (cS_one _) (by omega) (by unfold maxLen; omega) (by omega) ?_; exact Rd.holds ((hr1.alloc (.cells #[.int .i64 lm, .int .i64 lc] 24)).keep0 ((Chg.refl _ _).drew)); exact cells_new wr (cS [⟨lm, lc⟩]) 24; intro v' w2 hown hgrow; obtain ⟨A2, c2, rfl⟩ := own_form hown; have hch2 : Chg [] wr w2 := (((Chg.refl [] wr).alloc (.cells #[.int .i64 lm, .int .i64 lc] 24)).drew).grown hgrow (by simp); have hA2 := hA1.keep hch2 (by simp); have b0 := hA2.cell 0; have b1 := hA2.cell 1; simp only [clkC] at b0 b1; have hown2 : w2.ownsRow (wr.alloc (.cells #[.int .i64 lm, .int .i64 lc] 24)).drew.heap.size 24 2 (.slice A2 (xs.length + 1) c2) (xs.length + 1) (cS (xs ++ [⟨lm, lc⟩])) := (by rw [cS_app]; exact hown); clear hown hgrow)
                | (go_simp; go_at_call 14; refine (max_any _ A2 _ c2 (xs ++ [⟨lm, lc⟩]) (by simp) ?_ (by simp; omega)).mono ?_; (have hrd := Rd.of_own hown2; simpa using hrd); rintro e w3 ⟨rfl, hch3⟩; have hA3 := hA2.keep hch3 (by simp); have d0 := hA3.cell 0; have d1 := hA3.cell 1; simp only [clkC] at d0 d1; have e0 := hA3.free 0; have e1 := hA3.free 1))
            go_wp2_with (fail)
            go_ret
            refine ⟨by rw [HF.out]; rfl, by rw [HL.out]; exact (show At w3 B 75 #[_, _, _] from hA3).set3 _ _, ?_⟩
            exact (((hch.trans hch2 (by simp)).trans hch3 (by simp)).mono (by simp)).set2 (.inl (by simp)) _ _
end Go.Proofs.Ytaamdgimjbgeeaa
