
/-
  The reference of chapter 1: Num, Nums, Bytes lay the same bytes.
-/
import Derived.Test.YtkdbjhmffnjimaaOctW
namespace Go.Proofs.Ytkdbjhmffnjimaa
open Go.RowKit
attribute [local go_sem ↓] run_min2 run_max2

theorem and127u (x : Nat) (h : x < 18446744073709551616) : bits .and .u64 (x : Int) 127 = (x : Int) % 128 := by
  rw [show (127 : Int) = ((127 : Nat) : Int) by rfl, u64_and_nat _ _ h (by omega), show (127 : Nat) = 2 ^ 7 - 1 by rfl, Nat.and_two_pow_sub_one_eq_mod]
  rfl

set_option maxRecDepth 100000 in
set_option maxHeartbeats 1600000 in
theorem refNum_any (v : Int) (w : World) (hv : -9223372036854775808 ≤ v) (hv2 : v ≤ 9223372036854775807) :
    Calls Try.prog 56 #[.int .i64 v] w fun e w' => ∃ A c, e = .returned (.slice A (enc (clamp v)).length c) ∧ w'.ownsRow w.heap.size 5 1 (.slice A (enc (clamp v)).length c) (enc (clamp v)).length (cB (enc (clamp v))) ∧ Chg [] w w' := by
  obtain ⟨i0, hi, hz0, hz1, hz2⟩ := info_parts info8
  have Hcl := Lib.hid (clamp_le v)
  have Hlen9 := Lib.hid (enc_len9 (clamp_le v))
  have hcase : 4611686018427387904 < v ∨ (v ≤ 4611686018427387904 ∧ 0 < v) ∨ v ≤ 0 := by omega
  rcases hcase with h | ⟨h, h'⟩ | h
  all_goals
    have HCV : Hid (clamp v = (max 0 (min v 4611686018427387904)).toNat) := rfl
    generalize clamp v = n0 at *
    go_enter Try.func56, Try.ntmps56
    go_wp2_with (fail)
    go_loopw [3, 4] (fun u b wr => ∃ (x : Nat) (M : List UInt8) (A : Option Addr) (c : Nat), u = .int .u64 x ∧ b = .slice A M.length c ∧ x < 9223372036854775808 ∧ Hid (M ++ enc x = enc n0) ∧ wr.ownsRow w.heap.size 5 1 (.slice A M.length c) M.length (cB M) ∧ Chg [] w wr) (fun u _ _ => (intOf u).toNat)
    case atStart => exact ⟨n0, [], none, 0, by congr 1; rw [HCV.out]; omega, rfl, by have := Hcl.out; omega, rfl, World.ownsRow_nil _ _ _ _, Chg.refl _ _⟩
    case round =>
      obtain ⟨x, M, A, c, rfl, rfl, hx63, HM, hown, hch⟩ := hrel
      have hML : M.length ≤ 9 := by
        have h1 := congrArg List.length HM.out
        have h2 := Hlen9.out
        simp only [List.length_append] at h1
        omega
      have hsz := hch.size
      by_cases hx128 : 128 ≤ x
      · have e1 := and127u x (by omega)
        go_wp2_with (at_builtin; refine wpList_append_rd _ rfl (.tmp 13) (.tmp 18) 28 (by rfl) w.heap.size 5 i0 _ 1 1 Try.underlying28 hi hz0 hz1 hz2 rfl (by omega) (.slice A M.length c) M.length (cB M) (by rfl) (hown.alloc _) (some ⟨wr.heap.size, 0, none⟩) 1 1 [.int .u8 _] (by rfl) (Rd.of_at (At.new _ _ _) rfl) (by simp [Value.oneCell']) (by unfold maxLen; omega) (by omega) (by simp; omega) ?_; intro A3 c3 w3 hown3 hg3 hb3)
        go_roundw
        case rel =>
          have hb : (UInt8.ofNat (x % 128 + 128)).toNat = x % 128 + 128 := toNat_ofNat (by omega)
          refine ⟨x / 128, M ++ [UInt8.ofNat (x % 128 + 128)], A3, c3, by go_num, by simp, by omega, ?_, ?_, (hch.alloc _).grown hg3 (fun k hk => .inr (hown.lt k hk).1)⟩
          · unfold Hid; rw [← HM.out, enc_hi hx128]; simp
          · have e2 := u8_or128_right ((x : Int) % 128) (by omega) (by omega)
            have e3 : cB [UInt8.ofNat (x % 128 + 128)] = [.int .u8 (bits .or .u8 ((x : Int) % 128) 128)] := by
              show [Value.int .u8 ((UInt8.ofNat (x % 128 + 128)).toNat : Int)] = _
              rw [hb, e2, show ((x % 128 + 128 : Nat) : Int) = (x : Int) % 128 + 128 by omega]
            rw [cB_app, List.length_append, List.length_singleton, e3]
            exact hown3
        case measure => simp [intOf]; omega
      · go_wp2_with (at_builtin; refine wpList_append_rd _ rfl (.tmp 22) (.tmp 25) 28 (by rfl) w.heap.size 5 i0 _ 1 1 Try.underlying28 hi hz0 hz1 hz2 rfl (by omega) (.slice A M.length c) M.length (cB M) (by rfl) (hown.alloc _) (some ⟨wr.heap.size, 0, none⟩) 1 1 [.int .u8 _] (by rfl) (Rd.of_at (At.new _ _ _) rfl) (by simp [Value.oneCell']) (by unfold maxLen; omega) (by omega) (by simp; omega) ?_; intro A3 c3 w3 hown3 hg3 hb3)
        go_ret
        have h1 := HM.out
        rw [enc_lo (by omega)] at h1
        have hb : (UInt8.ofNat x).toNat = x := toNat_ofNat (by omega)
        rw [← h1, cB_app, List.length_append, List.length_singleton]
        exact ⟨A3, c3, rfl, by simpa [cB, hb] using hown3, (hch.alloc _).grown hg3 (fun k hk => .inr (hown.lt k hk).1)⟩

set_option maxHeartbeats 800000 in
theorem refBytes_any (w : World) (A : Option Addr) (n c : Nat) (ps : List UInt8) (hn : ps.length = n) (hr : Rd w 1 A ps.length (cB ps)) (hlen : ps.length ≤ 1099511627776) :
    Calls Try.prog 58 #[.slice A n c] w fun e w' => ∃ A' c', e = .returned (.slice A' (enc n ++ ps).length c') ∧ w'.ownsRow w.heap.size 5 1 (.slice A' (enc n ++ ps).length c') (enc n ++ ps).length (cB (enc n ++ ps)) ∧ Chg [] w w' := by
  subst hn
  obtain ⟨i0, hi, hz0, hz1, hz2⟩ := info_parts info8
  have hcl : clamp (ps.length : Int) = ps.length := clamp_nat (by omega)
  have Hl9 := Lib.hid (enc_len9 (show ps.length ≤ 4611686018427387904 by omega))
  have HE : Hid (enc (clamp (ps.length : Int)) = enc ps.length) := by unfold Hid; rw [hcl]
  clear hcl
  generalize enc ps.length = E at *
  go_enter Try.func58, Try.ntmps58
  go_wp2_with (fail)
  refine (refNum_any _ _ (by omega) (by omega)).mono ?_
  rintro e w1 ⟨A1, c1, rfl, hown, hch⟩
  rw [HE.out] at hown ⊢
  have hEl := Hl9.out
  have hr1 := hr.keep0 hch
  have hsz := hch.size
  go_wp2_with (at_builtin; refine wpList_append_rd _ rfl (.tmp 5) (.tmp 6) 28 (by rfl) w.heap.size 5 i0 _ 1 1 Try.underlying28 hi hz0 hz1 hz2 rfl (by omega) (.slice A1 E.length c1) E.length (cB E) (by rfl) hown A ps.length c (cB ps) (by rfl) hr1 (cB_one _) (by unfold maxLen; omega) (by omega) hsz ?_; intro A3 c3 w3 hown3 hg3 hb3)
  go_ret
  rw [cB_app, List.length_append]
  exact ⟨A3, c3, rfl, hown3, hch.grown hg3 (fun k hk => .inr (hown.lt k hk).1)⟩

set_option maxHeartbeats 1600000 in
theorem refNums_any (w : World) (A : Option Addr) (n c : Nat) (ns : List Int) (hn : ns.length = n) (hr : Rd w 1 A ns.length (cI ns)) (hlen : ns.length ≤ 1099511627776) (hw : ∀ z ∈ ns, -9223372036854775808 ≤ z ∧ z ≤ 9223372036854775807) :
    Calls Try.prog 28 #[.slice A n c] w fun e w' => ∃ A' c', e = .returned (.slice A' (encs (ns.map clamp)).length c') ∧ w'.ownsRow w.heap.size 5 1 (.slice A' (encs (ns.map clamp)).length c') (encs (ns.map clamp)).length (cB (encs (ns.map clamp))) ∧ Chg [] w w' := by
  subst hn
  obtain ⟨i0, hi, hz0, hz1, hz2⟩ := info_parts info8
  have HW := Lib.hid hw
  clear hw
  go_enter Try.func28, Try.ntmps28
  go_wp2_with (fail)
  go_loopw [4, 3] (fun i b wr => ∃ (k : Nat) (M : List UInt8) (A : Option Addr) (c : Nat), k ≤ ns.length ∧ i = .int .i64 k ∧ b = .slice A M.length c ∧ M.length ≤ 9 * k ∧ Hid (M = encs ((ns.take k).map clamp)) ∧ wr.ownsRow w.heap.size 5 1 (.slice A M.length c) M.length (cB M) ∧ Chg [] w wr) (fun i _ _ => ns.length - (intOf i).toNat)
  case atStart => exact ⟨0, [], none, 0, Nat.zero_le _, rfl, rfl, by simp, rfl, World.ownsRow_nil _ _ _ _, Chg.refl _ _⟩
  case round =>
    obtain ⟨k, M, A1, c1, hk, rfl, rfl, hML, HM, hown, hch⟩ := hrel
    by_cases hlt : k < ns.length
    · obtain ⟨ad, u, rfl, had, hu, hc⟩ := (hr.keep0 hch).get hlt
      rw [cI_get hlt] at hu
      have Hz := Lib.hid (HW.out _ (List.getElem_mem hlt))
      have HT : Hid (encs ((ns.take (k + 1)).map clamp) = encs ((ns.take k).map clamp) ++ enc (clamp ns[k])) := by
        unfold Hid; rw [List.take_succ_eq_append_getElem hlt, List.map_append, encs_append]; simp [encs]
      generalize ns[k] = z at *
      obtain rfl : Value.int .i64 z = u := by simpa using hu
      clear hu
      have Hl9 := Lib.hid (enc_len9 (clamp_le z))
      go_wp2_with (fail)
      refine (refNum_any z _ Hz.out.1 Hz.out.2).mono ?_
      rintro e w1 ⟨A2, c2, rfl, hown2, hch2⟩
      have hEl := Hl9.out
      generalize enc (clamp z) = E at *
      have hown1 := own_keep hown hch2 (by simp)
      have hsz := (hch.trans hch2 (by simp)).size
      have hr2 := Rd.of_own hown2
      go_wp2_with (at_builtin; refine wpList_append_rd _ rfl (.tmp 11) (.tmp 16) 28 (by rfl) w.heap.size 5 i0 _ 1 1 Try.underlying28 hi hz0 hz1 hz2 rfl (by omega) (.slice A1 M.length c1) M.length (cB M) (by rfl) hown1 A2 E.length c2 (cB E) (by rfl) hr2 (cB_one _) (by unfold maxLen; omega) (by omega) hsz ?_; intro A3 c3 w3 hown3 hg3 hb3)
      go_roundw
      case rel =>
        refine ⟨k + 1, M ++ E, A3, c3, by omega, by go_num, by simp, by simp; omega, ?_, ?_, (hch.trans hch2 (by simp)).grown hg3 (fun k hk => .inr (hown.lt k hk).1)⟩
        · unfold Hid; rw [HT.out, ← HM.out]
        · rw [cB_app, List.length_append]; exact hown3
      case measure => simp [intOf]; omega
    · obtain rfl : k = ns.length := by omega
      go_wp2_with (fail)
      go_ret
      have h := HM.out
      rw [List.take_length] at h
      rw [← h]
      exact ⟨A1, c1, rfl, hown, hch⟩
end Go.Proofs.Ytkdbjhmffnjimaa
