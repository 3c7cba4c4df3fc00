/-
  The reference's greatest stamp and its Clock (chapter 10).
-/
import Derived.Test.YtaamdgimjbgeeaaHlcH
namespace Go.Proofs.Ytaamdgimjbgeeaa
open Go.RowKit
attribute [local go_sem ↓] Go.wp_at_zero Go.wp_at_succ
attribute [local go_sem ↓] run_min2 run_max2

set_option maxHeartbeats 1600000 in
theorem refMax_any (w : World) (A : Option Addr) (n c : Nat) (l : List St) (hn : l.length = n) (hr : Rd w 2 A l.length (cS l)) (hl : l.length ≤ 4611686018427387904) :
    Calls Try.prog 22 #[.slice A n c] w fun e w' => e = .returned (.agg #[.int .i64 (maxS l).m, .int .i64 (maxS l).c]) ∧ Chg [] w w' := by
  subst hn
  go_enter Try.func22, Try.ntmps22
  go_wp2_with (fail)
  go_loopw [4] (fun i wr => ∃ k : Nat, k ≤ l.length ∧ i = .int .i64 k ∧ At wr w.heap.size 24 #[.int .i64 0, .int .i64 0] ∧ At wr (w.heap.size + 1) 24 #[.int .i64 (maxS (l.take k)).m, .int .i64 (maxS (l.take k)).c] ∧ Chg [] w wr) (fun i _ => l.length - (intOf i).toNat)
  case atStart => exact ⟨0, Nat.zero_le _, rfl, (At.new _ _ _).keep ((Chg.refl [] _).alloc _) (by simp), (by simpa [maxS, St.z] using At.new (w.alloc (.cells #[.int .i64 0, .int .i64 0] 24)) 24 #[.int .i64 0, .int .i64 0]), ((Chg.refl _ _).alloc _).alloc _⟩
  case round =>
    obtain ⟨k, hk, rfl, h2, h3, hch⟩ := hrel
    by_cases hlt : k < l.length
    · obtain ⟨ad, rfl, had, hc0, hc1⟩ := (hr.keep0 hch).getS hlt
      have HT : Hid (l.take (k + 1) = l.take k ++ [l[k]]) := List.take_succ_eq_append_getElem hlt
      generalize l[k] = s at *
      have hs1 := h3.lt
      have ha0 := h3.cell 0
      have ha1 := h3.cell 1
      have hf0 := h3.free 0
      have hf1 := h3.free 1
      have i0 : (0 : Int) ≤ (k : Int) := by omega
      have i1 : (k : Int) < (l.length : Int) := by omega
      by_cases hk0 : k = 0
      · have e0 : ((k : Int) == 0) = true := by simp [hk0]
        have HK := Lib.hid hk0
        clear hk0
        go_wp2_with (fail)
        go_quiet (fail)
        go_wp2_with (fail)
        go_roundw
        case rel =>
          have hm : maxS (l.take (k + 1)) = s := by rw [HT.out, HK.out]; rfl
          refine ⟨k + 1, by omega, by go_num, (h2.drewN _).keep ((Chg.refl [w.heap.size + 1] _).set2 (.inl (by simp)) _ _) (by simp), ?_, (hch.drewN _).set2 (.inr (by omega)) _ _⟩
          rw [hm]
          exact (h3.drewN _).set2 _ _
        case measure => simp [intOf]; omega
      · have e0 : ((k : Int) == 0) = false := beq_eq_false_iff_ne.2 (by omega)
        have Hm : Hid (maxS (l.take (k + 1)) = maxS2 (maxS (l.take k)) s) := by unfold Hid; rw [HT.out, maxS_snoc (by simp; omega)]
        clear hk0
        go_wp2_with (fail)
        go_region_held3 (fun w' => w'.cell? (ad.add (k * 2)) = some (.int .i64 s.m) ∧ w'.cell? ⟨(ad.add (k * 2)).block, (ad.add (k * 2)).off + 1, none⟩ = some (.int .i64 s.c) ∧ w'.cell? ⟨w.heap.size + 1, 0, none⟩ = some (.int .i64 (maxS (l.take k)).m) ∧ w'.cell? ⟨w.heap.size + 1, 1, none⟩ = some (.int .i64 (maxS (l.take k)).c)) (go_keep)
          ((go_at_call 21; refine (refCompare_any _ _ _ _ _).mono ?_; rintro e w3 ⟨rfl, hch3a⟩; have hch3 : Chg [] wr w3 := (Chg.refl _ wr).drew.trans hch3a (by simp); have hc0' := (hch3.cell (p := ad.add (k * 2)) (by rw [add_block]; exact had) (by simp)).trans hc0; have hc1' := (hch3.cell (p := ⟨(ad.add (k * 2)).block, (ad.add (k * 2)).off + 1, none⟩) (by rw [add_block]; exact had) (by simp)).trans hc1; have h33 := h3.keep hch3 (by simp); have hb0 := h33.cell 0; have hb1 := h33.cell 1; have hg0 := h33.free 0; have hg1 := h33.free 1))
        have hch4 := hch.trans hch3 (by simp)
        have h23 := h2.keep hch3 (by simp)
        clear hc0 hc1 ha0 ha1 hf0 hf1
        by_cases hgt : 0 < cmpS ⟨s.m, s.c⟩ ⟨(maxS (l.take k)).m, (maxS (l.take k)).c⟩
        · have Hgt := Lib.hid hgt
          go_wp2_with (fail)
          go_roundw
          case rel =>
            have hm : maxS (l.take (k + 1)) = s := by rw [Hm.out]; unfold maxS2; rw [if_pos Hgt.out]
            refine ⟨k + 1, by omega, by go_num, h23.keep ((Chg.refl [w.heap.size + 1] _).set2 (.inl (by simp)) _ _) (by simp), ?_, hch4.set2 (.inr (by omega)) _ _⟩
            rw [hm]
            exact h33.set2 _ _
          case measure => simp [intOf]; omega
        · have Hgt := Lib.hid hgt
          go_wp2_with (fail)
          go_roundw
          case rel =>
            have hm : maxS (l.take (k + 1)) = maxS (l.take k) := by rw [Hm.out]; unfold maxS2; exact if_neg Hgt.out
            refine ⟨k + 1, by omega, by go_num, h23, ?_, hch4⟩
            rw [hm]
            exact h33
          case measure => simp [intOf]; omega
    · obtain rfl : k = l.length := by omega
      have HT : Hid (l.take l.length = l) := by unfold Hid; rw [List.take_length]
      rw [HT.out] at h3
      have ha0 := h3.cell 0
      have ha1 := h3.cell 1
      have hb0 := h2.cell 0
      have hb1 := h2.cell 1
      have hf0 := h2.free 0
      have hf1 := h2.free 1
      go_wp2_with (fail)
      exact ret_st Try.results22 rfl (h2.set2 _ _) ⟨rfl, hch.set2 (.inr (by omega)) _ _⟩

set_option maxHeartbeats 1600000 in
theorem refSend_any (w : World) (B : Nat) (l : St) (b n : Int) (hA : At w B 65 (clkC l b)) (hI : ClkI l b) :
    Calls Try.prog 30 #[.pointer (some ⟨B, 0, none⟩), .int .i64 n] w (SendPost w B 65 (sendF l b n) (sendL l b n) b) := by
  obtain ⟨lm, lc⟩ := l
  obtain ⟨m0, m1, c0, c1, b0, b1⟩ := hI
  simp only at m0 m1 c0 c1
  have hB := hA.lt
  have a0 := hA.cell 0
  have a1 := hA.cell 1
  have a2 := hA.cell 2
  simp only [clkC] at a0 a1 a2
  have f0 := hA.free 0
  have f1 := hA.free 1
  by_cases hbad : n < 0 ∨ 281474976710655 < n
  · have hF : sendF ⟨lm, lc⟩ b n = (.z, 1) := by unfold sendF; rw [if_pos hbad]
    have hL : sendL ⟨lm, lc⟩ b n = ⟨lm, lc⟩ := by unfold sendL; rw [hF]; rfl
    rw [hL, hF]
    clear hL hF
    rcases hbad with hbad | hbad
    · go_enter Try.func30, Try.ntmps30
      go_wp2_with (fail)
      exact ret_st2 Try.results30 rfl rfl (At.new _ _ _) ⟨rfl, hA.keep ((Chg.refl [] _).alloc _) (by simp), (Chg.refl _ _).alloc _⟩
    · have h0 : 0 ≤ n := by omega
      go_enter Try.func30, Try.ntmps30
      go_wp2_with (fail)
      exact ret_st2 Try.results30 rfl rfl (At.new _ _ _) ⟨rfl, hA.keep ((Chg.refl [] _).alloc _) (by simp), (Chg.refl _ _).alloc _⟩
  · have h0 : 0 ≤ n := by omega
    have h1 : n ≤ 281474976710655 := by omega
    by_cases hle : n ≤ lm
    · have hN : nextS ⟨lm, lc⟩ n = ⟨lm, lc + 1⟩ := by unfold nextS; rw [if_pos hle]
      have hmax : max n lm = lm := by omega
      by_cases hov : 65535 < lc + 1
      · have hF : sendF ⟨lm, lc⟩ b n = (.z, 17) := by unfold sendF; rw [if_neg hbad, hN, if_pos hov]
        have hL : sendL ⟨lm, lc⟩ b n = ⟨lm, lc⟩ := by unfold sendL; rw [hF]; rfl
        rw [hL, hF]
        clear hL hF hN hbad
        go_enter Try.func30, Try.ntmps30
        go_wp2_with (fail)
        go_quiet (fail)
        go_wp2_with (fail)
        exact ret_st2 Try.results30 rfl rfl (((At.new _ _ _).keep ((((Chg.refl [w.heap.size + 1] _).alloc _).drewN _).setCell (.inl (by simp)) _) (by simp)).set2 _ _) ⟨rfl, hA.keep (((((((Chg.refl [w.heap.size, w.heap.size + 1] w).alloc _).alloc _).drewN _).setCell (.inl (by simp)) _)).set2 (.inl (by simp)) _ _) (by simp; omega), ((((((Chg.refl _ _).alloc _).alloc _).drewN _).setCell (.inr (by simp)) _)).set2 (.inr (Nat.le_refl _)) _ _⟩
      · by_cases hbe : b ≤ lm
        · have hF : sendF ⟨lm, lc⟩ b n = (.z, 18) := by unfold sendF; rw [if_neg hbad, hN, if_neg hov, if_pos hbe]
          have hL : sendL ⟨lm, lc⟩ b n = ⟨lm, lc⟩ := by unfold sendL; rw [hF]; rfl
          rw [hL, hF]
          clear hL hF hN hbad
          go_enter Try.func30, Try.ntmps30
          go_wp2_with (fail)
          go_quiet (fail)
          go_wp2_with (fail)
          go_quiet (fail)
          go_wp2_with (fail)
          exact ret_st2 Try.results30 rfl rfl (((At.new _ _ _).keep (((((Chg.refl [w.heap.size + 1] _).alloc _).drewN _).setCell (.inl (by simp)) _).drewN _) (by simp)).set2 _ _) ⟨rfl, hA.keep ((((((((Chg.refl [w.heap.size, w.heap.size + 1] w).alloc _).alloc _).drewN _).setCell (.inl (by simp)) _).drewN _)).set2 (.inl (by simp)) _ _) (by simp; omega), (((((((Chg.refl [B] w).alloc _).alloc _).drewN _).setCell (.inr (by simp)) _).drewN _)).set2 (.inr (Nat.le_refl _)) _ _⟩
        · have hF : sendF ⟨lm, lc⟩ b n = (⟨lm, lc + 1⟩, 0) := by unfold sendF; rw [if_neg hbad, hN, if_neg hov, if_neg hbe]
          have hL : sendL ⟨lm, lc⟩ b n = ⟨lm, lc + 1⟩ := by unfold sendL; rw [hF]; rfl
          rw [hL, hF]
          clear hL hF hN hbad
          go_enter Try.func30, Try.ntmps30
          go_wp2_with (fail)
          go_quiet (fail)
          go_wp2_with (fail)
          go_quiet (fail)
          go_wp2_with (fail)
          exact ret_st2 Try.results30 rfl rfl (((At.new _ _ _).keep ((((((Chg.refl [B, w.heap.size + 1] _).alloc _).drewN _).setCell (.inl (by simp)) _).drewN _).set2 (.inl (by simp)) _ _) (by simp; omega)).set2 _ _) ⟨rfl, ((hA.keep ((((((Chg.refl [w.heap.size + 1] w).alloc _).alloc _).drewN _).setCell (.inl (by simp)) _).drewN _) (by simp; omega)).set3 _ _).keep ((Chg.refl [w.heap.size] _).set2 (.inl (by simp)) _ _) (by simp; omega), ((((((((Chg.refl [B] w).alloc _).alloc _).drewN _).setCell (.inr (by simp)) _).drewN _)).set2 (.inl (by simp)) _ _).set2 (.inr (Nat.le_refl _)) _ _⟩
    · have hmax : max n lm = n := by omega
      have hN : nextS ⟨lm, lc⟩ n = ⟨n, 0⟩ := by unfold nextS; rw [if_neg hle]
      have hne : (n == lm) = false := beq_eq_false_iff_ne.2 (by omega)
      by_cases hbe : b ≤ n
      · have hF : sendF ⟨lm, lc⟩ b n = (.z, 18) := by unfold sendF; rw [if_neg hbad, hN, if_neg (by simp), if_pos hbe]
        have hL : sendL ⟨lm, lc⟩ b n = ⟨lm, lc⟩ := by unfold sendL; rw [hF]; rfl
        rw [hL, hF]
        clear hL hF hN hbad
        go_enter Try.func30, Try.ntmps30
        go_wp2_with (fail)
        go_quiet (fail)
        go_wp2_with (fail)
        go_quiet (fail)
        go_wp2_with (fail)
        exact ret_st2 Try.results30 rfl rfl (((At.new _ _ _).keep (((Chg.refl [] _).alloc _).drewN _) (by simp)).set2 _ _) ⟨rfl, hA.keep (((((Chg.refl [w.heap.size] w).alloc _).alloc _).drewN _).set2 (.inl (by simp)) _ _) (by simp; omega), ((((Chg.refl _ _).alloc _).alloc _).drewN _).set2 (.inr (Nat.le_refl _)) _ _⟩
      · have hF : sendF ⟨lm, lc⟩ b n = (⟨n, 0⟩, 0) := by unfold sendF; rw [if_neg hbad, hN, if_neg (by simp), if_neg hbe]
        have hL : sendL ⟨lm, lc⟩ b n = ⟨n, 0⟩ := by unfold sendL; rw [hF]; rfl
        rw [hL, hF]
        clear hL hF hN hbad
        go_enter Try.func30, Try.ntmps30
        go_wp2_with (fail)
        go_quiet (fail)
        go_wp2_with (fail)
        go_quiet (fail)
        go_wp2_with (fail)
        exact ret_st2 Try.results30 rfl rfl (((At.new _ _ _).keep ((((Chg.refl [B] _).alloc _).drewN _).set2 (.inl (by simp)) _ _) (by simp; omega)).set2 _ _) ⟨rfl, ((hA.keep ((((Chg.refl [] w).alloc _).alloc _).drewN _) (by simp)).set3 _ _).keep ((Chg.refl [w.heap.size] _).set2 (.inl (by simp)) _ _) (by simp; omega), (((((Chg.refl _ _).alloc _).alloc _).drewN _).set2 (.inl (by simp)) _ _).set2 (.inr (Nat.le_refl _)) _ _⟩

theorem refNew_yes (n : Int) (w : World) (h0 : 0 ≤ n) (h1 : n ≤ 281474976710655) : Calls Try.prog 29 #[.int .i64 n] w fun e w' =>
    e = .returned (.tuple #[.pointer (some ⟨w.heap.size, 0, none⟩), .int .i64 0]) ∧ w' = w.alloc (.cells #[.int .i64 n, .int .i64 0, .int .i64 n] 65) := by
  go_enter Try.func29, Try.ntmps29
  go_wp2_with (fail)
  go_ret2
  exact ⟨rfl, rfl⟩
theorem refNew_no (n : Int) (w : World) (h : n < 0 ∨ 281474976710655 < n) : Calls Try.prog 29 #[.int .i64 n] w fun e w' => e = .returned (.tuple #[.pointer none, .int .i64 1]) ∧ w = w' := by
  rcases h with h | h
  · go_enter Try.func29, Try.ntmps29
    go_wp2_with (fail)
    go_ret2
    exact ⟨rfl, rfl⟩
  · have h0 : 0 ≤ n := by omega
    go_enter Try.func29, Try.ntmps29
    go_wp2_with (fail)
    go_ret2
    exact ⟨rfl, rfl⟩
set_option maxHeartbeats 800000 in
theorem refRaise_any (w : World) (B : Nat) (l : St) (b n : Int) (hA : At w B 65 (clkC l b)) :
    Calls Try.prog 32 #[.pointer (some ⟨B, 0, none⟩), .int .i64 n] w (RaisePost w B 65 l b n) := by
  obtain ⟨lm, lc⟩ := l
  have hB := hA.lt
  have a2 := hA.cell 2
  simp only [clkC] at a2
  have f2 := hA.free 2
  by_cases h1 : n < b
  · have hF : raiseF b n = 1 := by unfold raiseF; rw [if_pos (.inl h1)]
    have hL : raiseB b n = b := by unfold raiseB; rw [if_pos (.inl h1)]
    unfold RaisePost
    rw [hF, hL]
    clear hF hL
    go_enter Try.func32, Try.ntmps32
    go_wp2_with (fail)
    go_ret
    exact ⟨rfl, hA, Chg.refl _ _⟩
  · by_cases h2 : 281474976710655 < n
    · have hF : raiseF b n = 1 := by unfold raiseF; rw [if_pos (.inr h2)]
      have hL : raiseB b n = b := by unfold raiseB; rw [if_pos (.inr h2)]
      unfold RaisePost
      rw [hF, hL]
      clear hF hL
      go_enter Try.func32, Try.ntmps32
      go_wp2_with (fail)
      go_ret
      exact ⟨rfl, hA, Chg.refl _ _⟩
    · have hF : raiseF b n = 0 := by unfold raiseF; rw [if_neg (by omega)]
      have hL : raiseB b n = n := by unfold raiseB; rw [if_neg (by omega)]
      unfold RaisePost
      rw [hF, hL]
      clear hF hL
      go_enter Try.func32, Try.ntmps32
      go_wp2_with (fail)
      go_ret
      exact ⟨rfl, by simpa [clkC] using hA.set_ 2 (.int .i64 n), (Chg.refl _ _).setCell (.inl (by simp)) _⟩
end Go.Proofs.Ytaamdgimjbgeeaa
