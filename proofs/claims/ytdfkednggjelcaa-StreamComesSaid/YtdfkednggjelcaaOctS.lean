
/-
  octet's Sum.
-/
import Derived.Test.YtdfkednggjelcaaOctW
import Derived.Test.YtdfkednggjelcaaMBase
namespace Go.Proofs.Ytdfkednggjelcaa
open Go.RowKit
theorem xor_byte (v : Nat) (c : UInt8) (h : v < 4294967296) : bits .xor .u32 (v : Int) (c.toNat : Int) = ((v ^^^ c.toNat : Nat) : Int) := by
  have := c.toNat_lt
  rw [u32_xor_nat _ _ h (by omega)]

set_option maxRecDepth 100000 in
set_option maxHeartbeats 800000 in
theorem sum_any (w : World) (A : Option Addr) (n c : Nat) (ls : List SlB) (hn : ls.length = n) (hr : Rd w 1 A ls.length (cR ls)) (hrs : ∀ r ∈ ls, RdB w r ∧ r.bs.length ≤ 1099511627776) (hlen : ls.length ≤ 140737488355328) :
    Calls Try.prog 78 #[.slice A n c] w fun e w' => e = .returned (.int .u32 (crc (ls.map SlB.bs).flatten : Nat)) ∧ w = w' := by
  subst hn
  have HRS := Lib.hid hrs
  clear hrs
  go_enter Try.func78, Try.ntmps78
  go_wp2_with (fail)
  go_loop [10, 3] (fun i v => ∃ k x : Nat, k ≤ ls.length ∧ i = .int .i64 k ∧ v = .int .u32 x ∧ Hid (x < 4294967296) ∧ Hid (x = crcL 4294967295 ((ls.take k).map SlB.bs).flatten)) (fun i _ => ls.length - (intOf i).toNat)
  case atStart => exact ⟨0, 4294967295, Nat.zero_le _, rfl, rfl, by unfold Hid; omega, by simp [crcL, Hid]⟩
  case round =>
    obtain ⟨k, x, hk, rfl, rfl, HX, HV⟩ := hrel
    by_cases hlt : k < ls.length
    · obtain ⟨ad, u, rfl, had, hu, hc⟩ := hr.get hlt
      rw [cR_get hlt] at hu
      have Hmem := Lib.hid (HRS.out _ (List.getElem_mem hlt))
      have HT : Hid (((ls.take (k + 1)).map SlB.bs).flatten = ((ls.take k).map SlB.bs).flatten ++ ls[k].bs) := by
        unfold Hid; rw [List.take_succ_eq_append_getElem hlt, List.map_append, List.flatten_append, List.map_singleton]; simp only [List.flatten_cons, List.flatten_nil, List.append_nil]
      generalize ls[k] = r at *
      obtain rfl : Value.slice r.A r.bs.length r.c = u := by simpa using hu
      clear hu
      obtain ⟨rA, rc, bs⟩ := r
      simp only at hc HT
      obtain ⟨hrow, hbl⟩ := Hmem.out
      simp only [RdB] at hrow hbl
      clear Hmem
      go_wp2_with (fail)
      go_loop [16, 3] (fun i v => ∃ j y : Nat, j ≤ bs.length ∧ i = .int .i64 j ∧ v = .int .u32 y ∧ Hid (y < 4294967296) ∧ Hid (y = crcL x (bs.take j))) (fun i _ => bs.length - (intOf i).toNat)
      case atStart => exact ⟨0, x, Nat.zero_le _, rfl, rfl, HX, by simp [crcL, Hid]⟩
      case round =>
        obtain ⟨j, y, hj, rfl, rfl, HY, HW⟩ := hrel
        by_cases hjl : j < bs.length
        · obtain ⟨ad2, u, rfl, had2, hu, hc2⟩ := hrow.get hjl
          rw [cB_get hjl] at hu
          obtain rfl : Value.int .u8 (bs[j].toNat : Int) = u := by simpa using hu
          clear hu
          have HT2 : Hid (bs.take (j + 1) = bs.take j ++ [bs[j]]) := List.take_succ_eq_append_getElem hjl
          have hb := bs[j].toNat_lt
          generalize bs[j] = b at *
          have exor := xor_byte y b HY.out
          have hxl := Lib.hid (xor_byte_lt HY.out b)
          have HB : Hid (crcByte y b = crcBits 8 (y ^^^ b.toNat)) := rfl
          generalize y ^^^ b.toNat = z at *
          go_wp2_with (fail)
          go_loop [24, 3] (fun i v => ∃ q : Nat, q ≤ 8 ∧ i = .int .i64 q ∧ v = .int .u32 (crcBits q z : Nat)) (fun i _ => 8 - (intOf i).toNat)
          case atStart => exact ⟨0, by omega, rfl, rfl⟩
          case round =>
            obtain ⟨q, hq, rfl, rfl⟩ := hrel
            by_cases hq8 : q < 8
            · have hzl := crcBits_lt hxl.out q
              have HS : Hid (crcBits (q + 1) z = crcBit (crcBits q z)) := rfl
              generalize crcBits q z = zz at *
              have e1 := crc_bit_and zz hzl
              have e3 := Lib.hid (crc_bit_all zz hzl)
              clear exor
              go_wp2_with (fail)
              go_round
              case rel => exact ⟨q + 1, by omega, by go_num, by rw [HS.out, ← e3.out]⟩
              case measure => simp [intOf]; omega
            · obtain rfl : q = 8 := by omega
              clear exor
              rw [← HB.out]
              go_wp2_with (fail)
              go_round
              case rel =>
                refine ⟨j + 1, crcByte y b, by omega, by go_num, rfl, crcByte_lt HY.out b, ?_⟩
                unfold Hid
                rw [HT2.out, crcL_append, ← HW.out]; rfl
              case measure => simp [intOf]; omega
        · obtain rfl : j = bs.length := by omega
          go_wp2_with (fail)
          go_round
          case rel =>
            refine ⟨k + 1, y, by omega, by go_num, rfl, HY, ?_⟩
            unfold Hid
            rw [HT.out, crcL_append, ← HV.out, HW.out, List.take_length]
          case measure => simp [intOf]; omega
    · obtain rfl : k = ls.length := by omega
      have hx := HX.out
      clear hx
      go_wp2_with (fail)
      go_ret
      refine ⟨?_, rfl⟩
      have h := HV.out
      rw [List.take_length] at h
      unfold crc
      rw [← h]
      rw [← crc_not x HX.out]
      rfl
end Go.Proofs.Ytdfkednggjelcaa
