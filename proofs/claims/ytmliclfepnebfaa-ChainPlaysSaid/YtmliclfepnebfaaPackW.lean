
/-
  Stamps as numbers: hlc.Pack.
-/
import Derived.Test.YtmliclfepnebfaaStW
namespace Go.Proofs.Ytmliclfepnebfaa
open Go.RowKit

theorem or_pack (m c : Nat) (hm : m ≤ 281474976710655) (hc : c ≤ 65535) : bits .or .u64 ((m : Int) * 65536) (c : Int) = (m : Int) * 65536 + c := by
  rw [show (m : Int) * 65536 = ((2 ^ 16 * m : Nat) : Int) by omega, u64_or_nat _ _ (by omega) (by omega), ← Nat.two_pow_add_eq_or_of_lt (by omega)]; omega
set_option maxHeartbeats 1600000 in
theorem pack_no (w : World) (m c : Int) (h : isS m c = false) :
    Calls Try.prog 39 #[.agg #[.int .i64 m, .int .i64 c]] w fun e w' => e = .returned (.tuple #[.int .u64 0, .int .i64 1]) ∧ Chg [] w w' := by
  go_enter Try.func39, Try.ntmps39
  go_wp2_with (go_at_call 51; refine (is_no _ _ _ h).mono ?_; rintro e w' ⟨rfl, hch⟩)
  go_ret2
  exact ⟨rfl, ((Chg.refl _ _).alloc _).trans hch (by simp)⟩
set_option maxHeartbeats 1600000 in
theorem pack_yes (w : World) (m c : Int) (h : isS m c = true) :
    Calls Try.prog 39 #[.agg #[.int .i64 m, .int .i64 c]] w fun e w' => e = .returned (.tuple #[.int .u64 (m * 65536 + c), .int .i64 0]) ∧ Chg [] w w' := by
  obtain ⟨h0, h1, h2, h3⟩ := isS_iff.1 h
  have HS := Lib.hid h
  clear h
  obtain ⟨m, rfl⟩ := Int.eq_ofNat_of_zero_le h0
  obtain ⟨c, rfl⟩ := Int.eq_ofNat_of_zero_le h2
  go_enter Try.func39, Try.ntmps39
  go_wp2_with (fail)
  refine (is_yes _ _ _ HS.out).mono ?_
  rintro e w1 ⟨rfl, hch1⟩
  obtain ⟨p0, p1, p2⟩ := ((At.new w 25 #[.int .i64 (m : Int), .int .i64 (c : Int)]).keep hch1 (by simp)).st
  have Ho := Lib.hid (or_pack m c (by omega) (by omega))
  go_wp2_with (fail)
  rw [Ho.out]
  go_ret2
  exact ⟨rfl, ((Chg.refl _ _).alloc _).trans hch1 (by simp)⟩
end Go.Proofs.Ytmliclfepnebfaa
