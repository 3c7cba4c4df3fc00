/-
  HlcFull: within one millisecond so many stamps are given, then none, and nothing is changed.
-/
import Derived.Test.YtaamdgimjbgeeaaHlcN
namespace Go.Proofs.Ytaamdgimjbgeeaa
open Go.RowKit

theorem full_hear (a f : Int) (h0 : 0 ≤ a) (h1 : a ≤ 1099511627776) (h2 : 0 ≤ f) (h3 : f ≤ 65535) : hearF a [⟨a, f⟩] = 0 ∧ hearL ⟨0, 0⟩ a [⟨a, f⟩] = ⟨a, f⟩ := by
  have e : hearF a [⟨a, f⟩] = 0 := by
    unfold hearF
    rw [if_neg (by omega), if_neg (by simp [isS]; omega), if_neg (by simp; omega)]
  refine ⟨e, ?_⟩
  unfold hearL
  rw [if_pos e]
  show maxS2 ⟨a, f⟩ ⟨0, 0⟩ = _
  unfold maxS2
  rw [if_neg]
  rw [cmpS_gt]
  show ¬ (a < 0 ∨ a = 0 ∧ f < 0)
  omega

set_option maxRecDepth 100000 in
set_option maxHeartbeats 3200000 in
theorem hlcFull_walk (w : World) (a : Int) (_ : (Lit.int .i64 a).wf = true) (f : Int) (_ : (Lit.int .i64 f).wf = true) (n : Int) (_ : (Lit.int .i64 n).wf = true) :
    Calls Try.prog 4 #[.int .i64 a, .int .i64 f, .int .i64 n] w fun e w' => e = .returned (.bool true) ∧ Chg [] w w' := by
  by_cases hin : 0 ≤ a ∧ a ≤ 1099511627776 ∧ 0 ≤ f ∧ f ≤ 65535 ∧ 1 ≤ n ∧ n ≤ 100
  · obtain ⟨h0, h1, h2, h3, h4, h5⟩ := hin
    obtain ⟨n, rfl⟩ := Int.eq_ofNat_of_zero_le (show 0 ≤ n by omega)
    have Hh := Lib.hid (full_hear a f h0 h1 h2 h3)
    go_enter Try.func4, Try.ntmps4
    go_wp2_with (fail)
    refine (new_yes 0 _ (by omega) (by omega)).mono ?_
    rintro e w1 ⟨rfl, rfl⟩
    have hA1 : At (w.alloc (.cells #[.int .i64 0, .int .i64 0, .int .i64 0] 75)) w.heap.size 75 (clkC ⟨0, 0⟩ 0) := At.new _ _ _
    go_wp2_with (fail)
    refine (raise_to _ w.heap.size ⟨0, 0⟩ 0 2199023255552 (r := 0) (b' := 2199023255552) hA1 (by simp [raiseF]) (by simp [raiseB])).mono ?_
    rintro e w2 ⟨rfl, hA2, hch2⟩
    have hB2 := hA2.lt
    go_wp2_with (fail)
    refine (hear_to _ w.heap.size ⟨0, 0⟩ 2199023255552 a (some ⟨w2.heap.size, 0, none⟩) 1 1 [⟨a, f⟩] (r := 0) (l' := ⟨a, f⟩) (hA2.keep ((Chg.refl [] _).alloc _) (by simp)) rfl (Rd.new' (by simp) rfl rfl) (Away.at (by simp; omega)) (by simp) (by simp) Hh.out.1 Hh.out.2).mono ?_
    rintro e w3 ⟨rfl, hA3, hch3⟩
    have hch : Chg [] w w3 := ((((Chg.refl _ _).alloc _).trans hch2 (by simp)).alloc _).trans hch3 (by simp)
    clear hA1 hA2 hch2 hch3 hB2
    go_wp2_with (fail)
    go_loopw [9] (fun i wr => ∃ k : Nat, k ≤ n ∧ i = .int .i64 (k + 1 : Nat) ∧ f + k ≤ 65535 ∧ At wr w.heap.size 75 (clkC ⟨a, f + k⟩ 2199023255552) ∧ Chg [] w wr) (fun i _ => n + 1 - (intOf i).toNat)
    case atStart => exact ⟨0, by omega, by go_num, by omega, by simpa using hA3, hch⟩
    case round =>
      clear hch hA3
      obtain ⟨k, hk, rfl, hfk, hA, hch⟩ := hrel
      have hB := hA.lt
      by_cases hlt : k < n
      · have i1 : ((k + 1 : Nat) : Int) ≤ (n : Int) := by omega
        have hN : nextS ⟨a, f + k⟩ a = ⟨a, f + k + 1⟩ := by unfold nextS; rw [if_pos (by simp)]
        by_cases hov : 65535 < f + k + 1
        · have hov' : 65535 < f + ((k + 1 : Nat) : Int) := by omega
          have HF : Hid (sendF ⟨a, f + k⟩ 2199023255552 a = (⟨0, 0⟩, 17)) := by unfold Hid sendF; rw [if_neg (by omega), hN, if_pos hov]; rfl
          have HL : Hid (sendL ⟨a, f + k⟩ 2199023255552 a = ⟨a, f + k⟩) := by unfold Hid sendL; rw [HF.out]; rfl
          have HF2 : Hid (sendF ⟨a, f + k⟩ 2199023255552 (a + 1) = (⟨a + 1, 0⟩, 0)) := by
            have hN2 : nextS ⟨a, f + k⟩ (a + 1) = ⟨a + 1, 0⟩ := by unfold nextS; rw [if_neg (by show ¬ (a + 1 ≤ a); omega)]
            unfold Hid sendF; rw [if_neg (by omega), hN2, if_neg (by simp), if_neg (by simp only; omega)]
          have HL2 : Hid (sendL ⟨a, f + k⟩ 2199023255552 (a + 1) = ⟨a + 1, 0⟩) := by unfold Hid sendL; rw [HF2.out]; rfl
          clear hN hov
          go_wp2_with (fail)
          refine (send_to _ w.heap.size ⟨a, f + k⟩ 2199023255552 a hA (ClkI.mk' (by omega)) HF.out HL.out).mono ?_
          rintro e w4 ⟨rfl, hA4, hch4⟩
          have hB4 := hA4.lt
          have hs4 := At.new w4 24 #[.int .i64 0, .int .i64 0]
          go_wp2_with (fail)
          refine (send_to _ w.heap.size ⟨a, f + k⟩ 2199023255552 (a + 1) (hA4.keep ((Chg.refl [] _).alloc _) (by simp)) (ClkI.mk' (by omega)) HF2.out HL2.out).mono ?_
          rintro e w5 ⟨rfl, hA5, hch5⟩
          have hs5 := hs4.keep hch5 (by simp; omega)
          obtain ⟨p0, p1, p2⟩ := hs5.st
          go_wp2_with (go_at_call 16; refine (known_any _).mono ?_; rintro e w7 ⟨rfl, hch7⟩)
          go_ret
          exact ⟨rfl, (((((hch.trans hch4 (by simp)).alloc _).trans hch5 (by simp)).alloc _).trans hch7 (by simp))⟩
        · have hov' : f + ((k + 1 : Nat) : Int) ≤ 65535 := by omega
          have HF : Hid (sendF ⟨a, f + k⟩ 2199023255552 a = (⟨a, f + ((k + 1 : Nat) : Int)⟩, 0)) := by
            unfold Hid sendF; rw [if_neg (by omega), hN, if_neg (by omega), if_neg (by simp only; omega), show f + k + 1 = f + ((k + 1 : Nat) : Int) by omega]
          have HL : Hid (sendL ⟨a, f + k⟩ 2199023255552 a = ⟨a, f + ((k + 1 : Nat) : Int)⟩) := by unfold Hid sendL; rw [HF.out]; rfl
          clear hN hov
          go_wp2_with (fail)
          refine (send_to _ w.heap.size ⟨a, f + k⟩ 2199023255552 a hA (ClkI.mk' (by omega)) HF.out HL.out).mono ?_
          rintro e w4 ⟨rfl, hA4, hch4⟩
          have hB4 := hA4.lt
          have hs4 := At.new w4 24 #[.int .i64 a, .int .i64 (f + ((k + 1 : Nat) : Int))]
          obtain ⟨p0, p1, p2⟩ := hs4.st
          go_wp2_with (fail)
          go_roundw
          case rel => exact ⟨k + 1, by omega, by go_num, hov', hA4.keep ((Chg.refl [] _).alloc _) (by simp), (hch.trans hch4 (by simp)).alloc _⟩
          case measure => simp [intOf]; omega
      · have i1 : ¬ ((k + 1 : Nat) : Int) ≤ (n : Int) := by omega
        go_wp2_with (go_at_call 16; refine (known_any _).mono ?_; rintro e w7 ⟨rfl, hch7⟩)
        go_ret
        exact ⟨rfl, hch.trans hch7 (by simp)⟩
  · have hfin : ∀ b0 : Int, b0 = a → a < 0 ∨ (0 ≤ a ∧ 1099511627776 < a) ∨ (0 ≤ a ∧ a ≤ 1099511627776 ∧ f < 0) ∨ (0 ≤ a ∧ a ≤ 1099511627776 ∧ 0 ≤ f ∧ 65535 < f) ∨ (0 ≤ a ∧ a ≤ 1099511627776 ∧ 0 ≤ f ∧ f ≤ 65535 ∧ n < 1) ∨ (0 ≤ a ∧ a ≤ 1099511627776 ∧ 0 ≤ f ∧ f ≤ 65535 ∧ 1 ≤ n ∧ 100 < n) := fun _ _ => by omega
    have h := hfin a rfl
    clear hfin hin
    rcases h with h | ⟨h0, h⟩ | ⟨h0, h1, h⟩ | ⟨h0, h1, h2, h⟩ | ⟨h0, h1, h2, h3, h⟩ | ⟨h0, h1, h2, h3, h4, h⟩
    all_goals
      go_enter Try.func4, Try.ntmps4
      go_wp2_with (go_at_call 16; refine (known_any _).mono ?_; rintro e w7 ⟨rfl, hch7⟩)
      go_ret
      exact ⟨rfl, hch7⟩
end Go.Proofs.Ytaamdgimjbgeeaa
