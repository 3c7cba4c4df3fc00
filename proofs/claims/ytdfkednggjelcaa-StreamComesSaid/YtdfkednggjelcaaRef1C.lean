
/-
  The reference's check sum (chapter 1).
-/
import Derived.Test.YtdfkednggjelcaaOctS
namespace Go.Proofs.Ytdfkednggjelcaa
open Go.RowKit

set_option maxRecDepth 100000 in
set_option maxHeartbeats 800000 in
theorem refSum_any (w : World) (A : Option Addr) (n c : Nat) (bs : List UInt8) (hn : bs.length = n) (hr : Rd w 1 A bs.length (cB bs)) (hlen : bs.length ≤ 140737488355328) :
    Calls Try.prog 64 #[.slice A n c] w fun e w' => e = .returned (.int .u32 (crc bs : Nat)) ∧ w = w' := by
  subst hn
  go_enter Try.func64, Try.ntmps64
  go_wp2_with (fail)
  go_loop [4, 3] (fun i v => ∃ j y : Nat, j ≤ bs.length ∧ i = .int .i64 j ∧ v = .int .u32 y ∧ Hid (y < 4294967296) ∧ Hid (y = crcL 4294967295 (bs.take j))) (fun i _ => bs.length - (intOf i).toNat)
  case atStart => exact ⟨0, 4294967295, Nat.zero_le _, rfl, rfl, by unfold Hid; omega, by simp [crcL, Hid]⟩
  case round =>
    obtain ⟨j, y, hj, rfl, rfl, HY, HW⟩ := hrel
    by_cases hjl : j < bs.length
    · obtain ⟨ad2, u, rfl, had2, hu, hc2⟩ := hr.get hjl
      rw [cB_get hjl] at hu
      obtain rfl : Value.int .u8 (bs[j].toNat : Int) = u := by simpa using hu
      clear hu
      have HT2 : Hid (bs.take (j + 1) = bs.take j ++ [bs[j]]) := List.take_succ_eq_append_getElem hjl
      have hb := bs[j].toNat_lt
      generalize bs[j] = b at *
      have exor := xor_byte y b HY.out
      have hxl := Lib.hid (xor_byte_lt HY.out b)
      have HB : Hid (crcByte y b = crcBits 8 (y ^^^ b.toNat)) := rfl
      generalize y ^^^ b.toNat = z at *
      go_wp2_with (fail)
      go_loop [5, 3] (fun i v => ∃ q : Nat, q ≤ 8 ∧ i = .int .i64 q ∧ v = .int .u32 (crcBits q z : Nat)) (fun i _ => 8 - (intOf i).toNat)
      case atStart => exact ⟨0, by omega, rfl, rfl⟩
      case round =>
        obtain ⟨q, hq, rfl, rfl⟩ := hrel
        by_cases hq8 : q < 8
        · have hzl := crcBits_lt hxl.out q
          have HS : Hid (crcBits (q + 1) z = crcBit (crcBits q z)) := rfl
          generalize crcBits q z = zz at *
          have e1 := crc_bit_and zz hzl
          clear exor
          by_cases h1 : zz % 2 = 1
          · have e2 : ((zz : Int) % 2 == 1) = true := by rw [beq_iff_eq]; omega
            have HC : Hid (crcBit zz = zz / 2 ^^^ 3988292384) := by unfold Hid crcBit; rw [if_pos h1]
            have H3 : Hid (bits .xor .u32 ((zz : Int) / 2) 3988292384 = ((zz / 2 ^^^ 3988292384 : Nat) : Int)) := by
              unfold Hid
              rw [show (zz : Int) / 2 = ((zz / 2 : Nat) : Int) by omega, show (3988292384 : Int) = ((3988292384 : Nat) : Int) by rfl, u32_xor_nat _ _ (by omega) (by omega)]
            clear h1
            go_wp2_with (fail)
            go_round
            case rel => exact ⟨q + 1, by omega, by go_num, by rw [HS.out, HC.out, ← H3.out]⟩
            case measure => simp [intOf]; omega
          · have e2 : ((zz : Int) % 2 == 1) = false := by rw [beq_eq_false_iff_ne]; omega
            have HC : Hid (crcBit zz = zz / 2) := by unfold Hid crcBit; rw [if_neg h1, Nat.xor_zero]
            clear h1
            go_wp2_with (fail)
            go_round
            case rel => exact ⟨q + 1, by omega, by go_num, by rw [HS.out, HC.out]; go_num⟩
            case measure => simp [intOf]; omega
        · obtain rfl : q = 8 := by omega
          clear exor
          rw [← HB.out]
          go_wp2_with (fail)
          go_round
          case rel =>
            refine ⟨j + 1, crcByte y b, by omega, by go_num, rfl, crcByte_lt HY.out b, ?_⟩
            unfold Hid
            rw [HT2.out, crcL_append, ← HW.out]; rfl
          case measure => simp [intOf]; omega
    · obtain rfl : j = bs.length := by omega
      have hx := HY.out
      clear hx
      go_wp2_with (fail)
      go_ret
      refine ⟨?_, rfl⟩
      have h := HW.out
      rw [List.take_length] at h
      unfold crc
      rw [← h]
      rw [← crc_not y HY.out]
      rfl
end Go.Proofs.Ytdfkednggjelcaa
