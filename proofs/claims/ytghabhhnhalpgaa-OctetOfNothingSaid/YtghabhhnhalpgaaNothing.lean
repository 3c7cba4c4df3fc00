/-
  OctetOfNothing: the walk of the law.
-/
import Derived.Test.YtghabhhnhalpgaaLawO
namespace Go.Proofs.Ytghabhhnhalpgaa
open Go.RowKit
set_option linter.unusedVariables false

set_option maxHeartbeats 800000 in
theorem bytes_nil (w : World) (A : Option Addr) (n c : Nat) (ls : List SlB) (hn : ls.length = n) (hr : Rd w 1 A ls.length (cR ls)) (hls : ls.length ≤ 1099511627776) :
    Calls Try.prog 26 #[.pointer none, .slice A n c] w fun e w' => e = .returned (.tuple #[]) ∧ Chg [] w w' := by
  subst hn
  go_enter Try.func26, Try.ntmps26
  go_wp2_with (fail)
  go_loopw [8] (fun i wr => ∃ k : Nat, k ≤ ls.length ∧ i = .int .i64 k ∧ Chg [] w wr) (fun i _ => ls.length - (intOf i).toNat)
  case atStart => exact ⟨0, Nat.zero_le _, rfl, Chg.refl _ _⟩
  case round =>
    obtain ⟨k, hk, rfl, hch⟩ := hrel
    by_cases hlt : k < ls.length
    · obtain ⟨ad, u, rfl, had, hu, hc⟩ := (hr.keep0 hch).get hlt
      rw [cR_get hlt] at hu
      generalize ls[k] = r at *
      obtain rfl : Value.slice r.A r.bs.length r.c = u := by simpa using hu
      clear hu
      go_wp2_with (first
        | (go_at_call 12; refine (nums_nil _ _ _ _).mono ?_; rintro e w' ⟨rfl, rfl⟩)
        | (go_at_call 29; refine (raw_nil _ _ _ _).mono ?_; rintro e w' ⟨rfl, rfl⟩))
      go_roundw
      case rel => exact ⟨k + 1, by omega, by go_num, hch.alloc _⟩
      case measure => simp [intOf]; omega
    · obtain rfl : k = ls.length := by omega
      go_wp2_with (fail)
      go_end0
      exact ⟨rfl, hch⟩
set_option maxHeartbeats 800000 in
theorem rnums_nil (w : World) :
    Calls Try.prog 34 #[.pointer none, .slice (some ⟨w.heap.size, 0, none⟩) 1 1] (w.alloc (.cells #[.pointer none] 58)) fun e w' => e = .returned (.tuple #[]) ∧ w' = w.alloc (.cells #[.pointer none] 58) := by
  go_enter Try.func34, Try.ntmps34
  go_wp2_with (fail)
  go_loopw [9] (fun i wr => ∃ k : Nat, k ≤ 1 ∧ i = .int .i64 k ∧ Hid (wr = w.alloc (.cells #[.pointer none] 58))) (fun i _ => 1 - (intOf i).toNat)
  case atStart => exact ⟨0, Nat.zero_le _, rfl, rfl⟩
  case round =>
    obtain ⟨k, hk, rfl, HW⟩ := hrel
    obtain rfl := HW.out
    clear HW
    by_cases hlt : k < 1
    · obtain rfl : k = 0 := by omega
      go_wp2_with (go_at_call 18; refine (rnum_nil _).mono ?_; rintro e w' ⟨rfl, rfl⟩)
      go_roundw
      case rel => exact ⟨1, by omega, by go_num, by simp [Hid]⟩
      case measure => simp [intOf]
    · obtain rfl : k = 1 := by omega
      go_wp2_with (fail)
      go_end0
      exact ⟨rfl, rfl⟩

set_option maxHeartbeats 1600000 in
theorem nothing_law (w : World) (v : Int) (hv : (Lit.int .i64 v).wf = true) (A : Option Addr) (c : Nat) (bs : List UInt8) (hr : Rd w 1 A bs.length (cB bs)) (hlc : bs.length ≤ c) (hcm : c ≤ maxLen) :
    Calls Try.prog 9 #[.int .i64 v, .slice A bs.length c] w fun e w' => e = .returned (.bool true) ∧ Chg [] w w' := by
  unfold maxLen at hcm
  by_cases hb : 4000 < bs.length
  · go_enter Try.func9, Try.ntmps9
    go_wp2_with (fail)
    go_ret
    exact ⟨rfl, Chg.refl _ _⟩
  · go_enter Try.func9, Try.ntmps9
    go_wp2_with (first
      | (go_at_call 12; refine (nums_nil _ _ _ _).mono ?_; rintro e w' ⟨rfl, rfl⟩)
      | (go_at_call 29; refine (raw_nil _ _ _ _).mono ?_; rintro e w' ⟨rfl, rfl⟩)
      | (go_at_call 33; refine (rbad_nil _).mono ?_; rintro e w' ⟨rfl, rfl⟩))
    refine (bytes_nil _ (some ⟨w.heap.size + 1, 0, none⟩) 1 1 [⟨A, c, bs⟩] rfl ?_ (by simp)).mono ?_
    · exact Rd.new' (by simp) rfl rfl
    rintro e w2 ⟨rfl, hch2⟩
    have hc2 : Chg [] w w2 := (((Chg.refl [] w).alloc _).alloc _).trans hch2 (by simp)
    go_wp2_with (first
      | (go_at_call 29; refine (raw_nil _ _ _ _).mono ?_; rintro e w' ⟨rfl, rfl⟩)
      | (go_at_call 33; refine (rbad_nil _).mono ?_; rintro e w' ⟨rfl, rfl⟩)
      | (go_at_call 34; refine (rnums_nil _).mono ?_; rintro e w' ⟨rfl, rfl⟩)
      | (go_at_call 13; refine (out_nil _).mono ?_; rintro e w' ⟨rfl, rfl⟩)
      | (go_at_call 18; refine (rnum_nil _).mono ?_; rintro e w' ⟨rfl, rfl⟩)
      | (go_at_call 30; refine (rbytes_nil _).mono ?_; rintro e w' ⟨rfl, rfl⟩)
      | (go_at_call 32; refine (rraw_nil _ _).mono ?_; rintro e w' ⟨rfl, rfl⟩)
      | (go_at_call 31; refine (rleft_nil _).mono ?_; rintro e w' ⟨rfl, rfl⟩)
      | (go_at_call 19; refine (rgood_nil _).mono ?_; rintro e w' ⟨rfl, rfl⟩)
      | (go_at_call 20; refine (rwhole_nil _).mono ?_; rintro e w' ⟨rfl, rfl⟩)
      | (go_at_call 11; refine (known_any _).mono ?_; rintro e wk ⟨rfl, hchk⟩))
    go_ret
    exact ⟨rfl, (hc2.alloc _).trans hchk (by simp)⟩
end Go.Proofs.Ytghabhhnhalpgaa
