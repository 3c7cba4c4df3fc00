/-
  OctetSmall holds: of every number the bytes are as few as they can be, and the first tells whether it is below 128. No condition.
-/
import Derived.Test.YtghabhhnhalpgaaLawO
import Derived.ProofKit
import Derived.OpenShut
import Derived.ShutString
import Derived.ChangeOld
namespace Go.Proofs.Ytghabhhnhalpgaa
open Go.ChangeShapes Go.WideShapes Go.ChangeAt Go.RowKit

set_option maxRecDepth 100000 in
set_option maxHeartbeats 1600000 in
theorem small_walk (v : Int) (w : World) (hv : -9223372036854775808 ≤ v) (hv2 : v ≤ 9223372036854775807) :
    Calls Try.prog 3 #[.int .i64 v] w fun e w' => e = .returned (.bool true) ∧ Chg [] w w' := by
  by_cases hin : 0 ≤ v ∧ v ≤ 4611686018427387904
  · obtain ⟨h0, h1⟩ := hin
    have hn0 := Wr.new w
    have hcl : clamp v = v.toNat := by unfold clamp; omega
    obtain ⟨n, rfl⟩ := Int.eq_ofNat_of_zero_le h0
    have hneg : ¬ ((n : Int) < 0) := by omega
    have hbig : ¬ (4611686018427387904 < (n : Int)) := by omega
    have Hn62 : Hid (n ≤ 4611686018427387904) := by unfold Hid; omega
    clear h0 h1 hv hv2
    have HE : Hid ([] ++ encs (List.map clamp [(n : Int)]) = enc n) := by unfold Hid; simp [encs, hcl]
    clear hcl
    obtain ⟨fc, fr, Hfirst⟩ : ∃ c r, Hid (enc n = c :: r ∧ (c.toNat < 128 ↔ n < 128)) := enc_first n
    have Hlast := Lib.hid (enc_last n n (Nat.le_refl _))
    have Hmore := Lib.hid (enc_more n)
    have Hlen9 := Lib.hid (enc_len9 Hn62.out)
    have Hpos := Lib.hid (enc_pos n)
    go_enter Try.func3, Try.ntmps3
    go_wp2_with (fail)
    refine (nums_any w.heap.size [] w _ none 0 (some ⟨w.heap.size + 1, 0, none⟩) 1 [(n : Int)] [] (hn0.keep0 ((Chg.refl _ _).alloc _)) (Rd.new' (by simp) rfl rfl) (by simp) (by simp) (Away.at (by simp [blk]))).mono ?_
    rintro e w1 ⟨rfl, A1, c1, h1⟩
    rw [HE.out] at h1
    go_wp2_with (fail)
    refine (out_any w.heap.size w [] _ A1 c1 _ h1 (by have := Hlen9.out; omega)).mono ?_
    rintro e w2 ⟨A2, c2, rfl, hown, hch⟩
    go_wp2_with (fail)
    go_loop [6, 5] (fun x m => ∃ y k : Nat, x = .int .i64 y ∧ m = .int .i64 k ∧ k ≤ 10 ∧ Hid ((enc n).length = k + more y) ∧ Hid (y ≤ 4611686018427387904)) (fun x _ => (intOf x).toNat)
    case atStart => exact ⟨n / 128, 1, by go_num, rfl, by omega, Hmore.out, by have := Hn62.out; unfold Hid; omega⟩
    case round =>
      obtain ⟨y, k, rfl, rfl, hk10, HL, HY⟩ := hrel
      by_cases hy : 0 < y
      · have hms := Lib.hid (more_step hy)
        have hk9 : k < 10 := by have := HL.out; have := hms.out; have := Hlen9.out; omega
        go_wp2_with (fail)
        go_round
        case rel => exact ⟨y / 128, k + 1, by go_num, by go_num, by omega, by unfold Hid; rw [HL.out, hms.out]; omega, by have := HY.out; unfold Hid; omega⟩
        case measure => simp [intOf]; omega
      · obtain rfl : y = 0 := by omega
        have hkk : (enc n).length = k := by rw [HL.out, more_zero]; rfl
        obtain ⟨hf1, hf2⟩ := Hfirst.out
        have hk0 : 0 < k := by have := Hpos.out; omega
        have hl := Hlast.out
        rw [hkk] at hown hl ⊢
        obtain ⟨g, rfl, hg0, hg1, hcell, _⟩ := own_cells hown hk0
        have hce0 : w2.cell? ⟨g, 0, none⟩ = some (.int .u8 (fc.toNat : Int)) := hcell 0 _ (by rw [hf1]; rfl)
        have hchg : Chg [] w w2 := (h1.chg.mono (T := []) (by simp)).trans hch (by simp)
        have Hchg := Lib.hid hchg
        have Hcell := Lib.hid hcell
        have Hkk := Lib.hid hkk
        clear hcell hkk hchg hown hch
        by_cases h128 : n < 128
        · have hfc : fc.toNat < 128 := hf2.2 h128
          have hk1 : k = 1 := by rw [← Hkk.out, enc_lo h128]; rfl
          subst hk1
          clear hf1 hf2 hl
          go_wp2_with (go_at_call 11; refine (known_any _).mono ?_; rintro e w' ⟨rfl, hch'⟩)
          go_ret
          exact ⟨rfl, Hchg.out.trans hch' (by simp)⟩
        · have hfc : ¬ fc.toNat < 128 := fun h => h128 (hf2.1 h)
          have hk2 : 2 ≤ k := by
            have h1 := Hkk.out
            rw [enc_hi (by omega)] at h1
            have := enc_pos (n / 128)
            simp at h1
            omega
          obtain ⟨lc, hl1, hl2⟩ := hl (by omega)
          have hcl : w2.cell? ⟨g, k - 1, none⟩ = some (.int .u8 (lc.toNat : Int)) := Hcell.out (k - 1) _ (by simp [cB, hl1])
          have hb1 : ((k : Int) == 1) = false := by rw [beq_eq_false_iff_ne]; omega
          have hb2 : ((lc.toNat : Int) != 0) = true := by
            rw [bne_iff_ne]; intro h; exact hl2 (UInt8.toNat_inj.1 (by simp; omega))
          clear hf1 hf2 hl hl1 hl2
          go_wp2_with (go_at_call 11; refine (known_any _).mono ?_; rintro e w' ⟨rfl, hch'⟩)
          go_ret
          exact ⟨rfl, Hchg.out.trans hch' (by simp)⟩
  · by_cases hneg : v < 0
    · clear hin
      go_enter Try.func3, Try.ntmps3
      go_wp2_with (go_at_call 11; refine (known_any _).mono ?_; rintro e w' ⟨rfl, hch⟩)
      go_ret
      exact ⟨rfl, hch⟩
    · have hbig : 4611686018427387904 < v := by omega
      clear hin
      go_enter Try.func3, Try.ntmps3
      go_wp2_with (go_at_call 11; refine (known_any _).mono ?_; rintro e w' ⟨rfl, hch⟩)
      go_ret
      exact ⟨rfl, hch⟩
theorem small_law (w : World) (v : Int) (hv : (Lit.int .i64 v).wf = true) :
    Calls Try.prog 3 #[.int .i64 v] w fun e w' => e = .returned (.bool true) ∧ Chg [] w w' := by
  have hb := bounds_i64 hv
  exact small_walk v w hb.1 hb.2
end Go.Proofs.Ytghabhhnhalpgaa
