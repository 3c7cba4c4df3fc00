
/-
  StreamAgain: the walk of the law.
-/
import Derived.Test.YtdfkednggjelcaaStrS
import Derived.Test.YtdfkednggjelcaaStrK
namespace Go.Proofs.Ytdfkednggjelcaa
open Go.RowKit
set_option linter.unusedVariables false

theorem isR_recO {o q : Int} (h0 : 0 ≤ o) (h5 : o < 5) (h1 : 1 ≤ q) (h2 : q ≤ 1099511627776) : isR (recO o q) = true := by
  have hm : max 0 (min q 1099511627776) = q := by omega
  have hr : recO o q = ⟨o, q, [107], q, 0, o, [b8 q], false, 0⟩ := by unfold recO; rw [hm]
  rw [hr]
  refine isR_iff.2 ⟨isS_iff.2 ⟨by simp only; omega, by simp only; omega, by simp only; omega, by simp only; omega⟩, by simpa using h0, by simpa using h5, by simpa using h1, by simpa using h2, by simp, by simp, rfl, by simp, by simp, by simp, by simp⟩
theorem okL_some {o f : Int} {n : Nat} (h0 : 0 ≤ o) (h5 : o < 5) (h1 : 1 ≤ f) (h2 : f + n ≤ 1099511627777) : okL o (someL o f n) = true := okL_iff.2 fun r hr => by
  obtain ⟨i, hi, rfl⟩ := List.mem_map.1 hr
  have hi' := List.mem_range.1 hi
  exact ⟨isR_recO h0 h5 (by omega) (by omega), rfl⟩
theorem someL_get {o f : Int} {n i : Nat} (hi : i < (someL o f n).length) : (someL o f n)[i] = recO o (f + i) := by simp [someL]

set_option maxRecDepth 100000 in
set_option maxHeartbeats 6400000 in
theorem streamAgain_law (w : World) (n : Int) (hn : (Lit.int .i64 n).wf = true) (ac : Int) (hac : (Lit.int .i64 ac).wf = true) :
    Calls Try.prog 6 #[.int .i64 n, .int .i64 ac] w fun e w' => e = .returned (.bool true) ∧ Chg [] w w' := by
  clear hn hac
  by_cases hbad : n < 1 ∨ 8 < n ∨ ac < 0 ∨ n < ac
  · by_cases b1 : n < 1
    · clear hbad
      go_enter Try.func6, Try.ntmps6
      go_wp2_with (go_at_call 11; (with_reducible refine (knownL_any _).mono ?_); rintro e w9 ⟨rfl, hch9⟩)
      go_ret
      exact ⟨rfl, hch9⟩
    by_cases b2 : 8 < n
    · clear hbad
      go_enter Try.func6, Try.ntmps6
      go_wp2_with (go_at_call 11; (with_reducible refine (knownL_any _).mono ?_); rintro e w9 ⟨rfl, hch9⟩)
      go_ret
      exact ⟨rfl, hch9⟩
    by_cases b3 : ac < 0
    · clear hbad
      go_enter Try.func6, Try.ntmps6
      go_wp2_with (go_at_call 11; (with_reducible refine (knownL_any _).mono ?_); rintro e w9 ⟨rfl, hch9⟩)
      go_ret
      exact ⟨rfl, hch9⟩
    · have b4 : n < ac := by omega
      clear hbad
      go_enter Try.func6, Try.ntmps6
      go_wp2_with (go_at_call 11; (with_reducible refine (knownL_any _).mono ?_); rintro e w9 ⟨rfl, hch9⟩)
      go_ret
      exact ⟨rfl, hch9⟩
  obtain ⟨N, rfl⟩ := Int.eq_ofNat_of_zero_le (show 0 ≤ n by omega)
  obtain ⟨K, rfl⟩ := Int.eq_ofNat_of_zero_le (show 0 ≤ ac by omega)
  have b1 : ¬ (N : Int) < 1 := by omega
  have b2 : ¬ 8 < (N : Int) := by omega
  have b3 : ¬ (K : Int) < 0 := by omega
  have b4 : ¬ (N : Int) < (K : Int) := by omega
  have n1 : 1 ≤ N := by omega
  have n8 : N ≤ 8 := by omega
  have kn : K ≤ N := by omega
  clear hbad
  have HS : Hid (sendO ⟨1, 0, 0, 0, 0⟩ (someL 1 1 N) = (encF (bodyW ⟨1, 1, 1, 0, 0, 0, 0, someL 1 1 N⟩), 0, ⟨1, 0, 0, (N : Int), 0⟩)) := by
    have h := sendO_yes (o := ⟨1, 0, 0, 0, 0⟩) (l := someL 1 1 N) (f := 1) (okL_some (o := 1) (f := 1) (n := N) (by omega) (by omega) (by omega) (by omega)) (by rw [someL_len]; omega) (by rw [someL_len]; omega) (fun i hi => by rw [someL_get hi]; rfl) (by simp) (by simp)
    rw [someL_len] at h
    unfold Hid
    rw [h]
    simp only [Prod.mk.injEq, OSt.mk.injEq, true_and, and_true]
    omega
  have HA : Hid (ackO ⟨1, 0, 0, (N : Int), 0⟩ (K : Int) = (decide (0 < (K : Int)), ⟨1, 0, (K : Int), (N : Int), 0⟩)) := by
    unfold Hid ackO
    by_cases hk : K = 0
    · subst hk; simp
    · rw [if_neg (show ¬ ((K : Int) ≤ 0 ∨ (N : Int) < (K : Int)) by omega), decide_eq_true (show (0 : Int) < (K : Int) by omega)]
  go_enter Try.func6, Try.ntmps6
  go_wp2_with (fail)
  refine (newOut_yes _ 1 0 0 (by decide)).mono ?_
  rintro e w1 ⟨g, rfl, hg, hO1, hch1⟩
  go_wp2_with (fail)
  refine (some_any w1 1 1 (N : Int) (by omega) (by omega) (by omega)).mono ?_
  rintro e w2 ⟨A2, c2, l2, rfl, hl2, hown2, hV2, hch2⟩
  rw [Int.toNat_natCast] at hl2
  have hO2 := hO1.keep hch2 (by simp)
  have hc2 := hch1.trans hch2 (by simp)
  have HL2 : Hid (l2.length = N) := by
    have h := congrArg List.length hl2.out
    rw [List.length_map, someL_len] at h
    exact h
  clear hO1 hch1 hch2
  go_wp2_with (fail)
  refine (send_any w2 g ⟨1, 0, 0, 0, 0⟩ hO2 ⟨by decide, by decide, by decide, by decide, by decide, by decide, by decide, by decide, by decide⟩ A2 _ c2 l2 rfl (Rd.of_own hown2) (fun x hx => (hV2.out x hx).rd) (by have := HL2.out; omega)).mono ?_
  rw [hl2.out, HS.out]
  rintro e w3 ⟨A3, c3, ms, rfl, hm, -, hO3, hch3⟩
  simp only at hO3 ⊢
  have HM3 : Hid (ms.length = 1) := by
    have h := congrArg List.length hm.1.out
    rw [List.length_map] at h
    exact h
  have hc3 : Chg [] w w3 := hc2.trans hch3 (by simp; have := hch3.size; omega)
  clear hm hc2 hch3 hown2 hV2 hl2 HL2 hO2
  have hml : (ms.length : Int) = 1 := by rw [HM3.out]; rfl
  go_wp2_with (go_at_call 26; (with_reducible refine (ack_any w3 g ⟨1, 0, 0, (N : Int), 0⟩ hO3 (K : Int)).mono ?_); rw [HA.out]; rintro e w4 ⟨rfl, hO4, hch4⟩)
  have hc4 : Chg [] w w4 := hc3.trans hch4 (by simp; have := hch4.size; have := hc3.size; omega)
  clear hO3 hc3 hch4 HA HS
  go_loopw [9] (fun i wr => ∃ (k : Nat) (t : Int), k ≤ 4 ∧ i = .int .i64 k ∧ Hid (t = if K < N then (k : Int) else 0) ∧ Hid (At wr g 95 (OSt.cells ⟨1, 0, (K : Int), (N : Int), t⟩)) ∧ Chg [] w wr) (fun i _ => 4 - (intOf i).toNat)
  case atStart => exact ⟨0, 0, by omega, rfl, by unfold Hid; split <;> rfl, hO4, hc4⟩
  case round =>
    clear hO4 hc4
    obtain ⟨k, t, hk, rfl, HT, HO, hch⟩ := hrel
    have HTb : Hid (0 ≤ t ∧ t ≤ 4) := by
      have h := HT.out
      unfold Hid
      split at h <;> omega
    have hok : OSt.Ok ⟨1, 0, (K : Int), (N : Int), t⟩ := ⟨by show (0 : Int) ≤ 1; omega, by show (1 : Int) < 5; omega, by show (0 : Int) ≤ 0; omega, by show (0 : Int) < 5; omega, by show (0 : Int) ≤ (K : Int); omega, by show (K : Int) ≤ (N : Int); omega, by show (N : Int) ≤ _; omega, HTb.out.1, by show t ≤ _; have := HTb.out.2; omega⟩
    by_cases hlt : k < 4
    · have HN : Hid (needO ⟨1, 0, (K : Int), (N : Int), t⟩ (N : Int) = (0, false)) := by
        unfold Hid needO
        have h := HT.out
        rw [if_neg (show ¬ (N : Int) < (N : Int) by omega), if_neg (show ¬ ((K : Int) < (N : Int) ∧ 4 ≤ t) by split at h <;> omega)]
      have HTk : Hid (tickO ⟨1, 0, (K : Int), (N : Int), t⟩ = ⟨1, 0, (K : Int), (N : Int), if K < N then ((k + 1 : Nat) : Int) else 0⟩) := by
        unfold Hid tickO
        have h := HT.out
        by_cases hkn : K < N
        · rw [if_pos (show (K : Int) < (N : Int) by omega), if_pos hkn]
          rw [if_pos hkn] at h
          subst h; rfl
        · rw [if_neg (show ¬ (K : Int) < (N : Int) by omega), if_neg hkn]
          rw [if_neg hkn] at h
          subst h; rfl
      have hki : (k : Int) < 4 := by omega
      go_wp2_with (fail)
      refine (need_any wr g ⟨1, 0, (K : Int), (N : Int), t⟩ HO.out hok (N : Int)).mono ?_
      rw [HN.out]
      rintro e w5 ⟨rfl, hch5⟩
      have hO5 := HO.out.keep hch5 (by simp)
      have hc5 := hch.trans hch5 (by simp)
      clear HO hch hch5 hok
      go_wp2_with (fail)
      refine (tick_any w5 g ⟨1, 0, (K : Int), (N : Int), t⟩ hO5 ⟨HTb.out.1, by show t ≤ _; have := HTb.out.2; omega⟩).mono ?_
      rw [HTk.out]
      rintro e w6 ⟨rfl, hO6, hch6⟩
      have hc6 : Chg [] w w6 := hc5.trans hch6 (by simp; have := hch6.size; have := hc5.size; omega)
      clear hO5 hc5 hch6 HTk HN HTb HT
      go_wp2_with (fail)
      go_roundw
      case rel => exact ⟨k + 1, _, by omega, by go_num, rfl, hO6, hc6⟩
      case measure => simp [intOf]; omega
    · obtain rfl : k = 4 := by omega
      go_wp2_with (fail)
      refine (need_any wr g ⟨1, 0, (K : Int), (N : Int), t⟩ HO.out hok (N : Int)).mono ?_
      by_cases hkn : K = N
      · have HN : Hid (needO ⟨1, 0, (K : Int), (N : Int), t⟩ (N : Int) = (0, false)) := by
          unfold Hid needO
          rw [if_neg (show ¬ (N : Int) < (N : Int) by omega), if_neg (show ¬ ((K : Int) < (N : Int) ∧ 4 ≤ t) by omega)]
        have hb : ((K : Int) == (N : Int)) = true := by rw [hkn]; simp
        have HKN := Lib.hid hkn
        clear hkn
        rw [HN.out]
        rintro e w5 ⟨rfl, hch5⟩
        have hc5 := hch.trans hch5 (by simp)
        clear HO hch hch5 hok
        go_wp2_with (go_at_call 11; (with_reducible refine (knownL_any _).mono ?_); rintro e w9 ⟨rfl, hch9⟩)
        go_ret
        exact ⟨rfl, hc5.trans hch9 (by simp)⟩
      · have HN : Hid (needO ⟨1, 0, (K : Int), (N : Int), t⟩ (N : Int) = ((K : Int) + 1, true)) := by
          unfold Hid needO
          have h := HT.out
          rw [if_pos (show K < N by omega)] at h
          rw [if_neg (show ¬ (N : Int) < (N : Int) by omega), if_pos (show ((K : Int) < (N : Int) ∧ 4 ≤ t) by omega)]
        have hb : ((K : Int) == (N : Int)) = false := by rw [beq_eq_false_iff_ne]; omega
        have HKN := Lib.hid hkn
        clear hkn
        rw [HN.out]
        rintro e w5 ⟨rfl, hch5⟩
        have hc5 := hch.trans hch5 (by simp)
        clear HO hch hch5 hok
        go_wp2_with (go_at_call 11; (with_reducible refine (knownL_any _).mono ?_); rintro e w9 ⟨rfl, hch9⟩)
        go_ret
        exact ⟨rfl, hc5.trans hch9 (by simp)⟩
end Go.Proofs.Ytdfkednggjelcaa
