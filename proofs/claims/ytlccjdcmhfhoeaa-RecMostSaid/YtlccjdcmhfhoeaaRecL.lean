
/-
  Chapter 14's laws: their own small functions.
-/
import Derived.Test.YtlccjdcmhfhoeaaRecS
import Derived.Test.YtlccjdcmhfhoeaaRecE
namespace Go.Proofs.Ytlccjdcmhfhoeaa
open Go.RowKit
set_option linter.unusedVariables false

/-- 'heavy' is told: where it says no, records are no more than is looked at. -/
def HeavyR (most : Nat) (ls : List RcV) (w : World) (e : Ending) (w' : World) : Prop := ∃ hv : Bool, e = .returned (.bool hv) ∧ (hv = false → 20 * ls.length + (ls.map fun x => x.r.key.length + x.r.val.length).sum ≤ most) ∧ Chg [] w w'

set_option maxRecDepth 100000 in
set_option maxHeartbeats 1600000 in
theorem heavyR_any (w : World) (A : Option Addr) (n c : Nat) (ls : List RcV) (hn : ls.length = n) (hr : Rd w 9 A ls.length (cRc ls)) (hls : ls.length ≤ 140737488351232) (hbs : ∀ x ∈ ls, x.r.key.length ≤ 140737488351232 ∧ x.r.val.length ≤ 140737488351232) :
    Calls Try.prog 11 #[.slice A n c] w (HeavyR 6000 ls w) := by
  subst hn
  have HB := Lib.hid hbs
  have HR := Lib.hid hr
  clear hbs hr
  go_enter Try.func11, Try.ntmps11
  go_wp2_with (fail)
  go_loopw [4, 3] (fun i m wr => ∃ k x : Nat, k ≤ ls.length ∧ i = .int .i64 k ∧ m = .int .i64 x ∧ x ≤ 6000 ∧ Hid (x = 20 * k + ((ls.take k).map fun x => x.r.key.length + x.r.val.length).sum) ∧ Chg [] w wr) (fun i _ _ => ls.length - (intOf i).toNat)
  case atStart => exact ⟨0, 0, Nat.zero_le _, rfl, rfl, by omega, by simp [Hid], Chg.refl _ _⟩
  case round =>
    obtain ⟨k, x, hk, rfl, rfl, hx, HX, hch⟩ := hrel
    by_cases hlt : k < ls.length
    · obtain ⟨ad, rfl, had, hc0, hc⟩ := (HR.out.keep0 hch).getR hlt
      have hrb := HB.out _ (List.getElem_mem hlt)
      have HT : Hid (((ls.take (k + 1)).map fun x => x.r.key.length + x.r.val.length).sum = ((ls.take k).map fun x => x.r.key.length + x.r.val.length).sum + (ls[k].r.key.length + ls[k].r.val.length)) := by
        unfold Hid; rw [List.take_succ_eq_append_getElem hlt, List.map_append, List.sum_append]; simp
      have hc2 := hc 2 _ (by omega) rfl
      have hc6 := hc 6 _ (by omega) rfl
      generalize ls[k] = r at *
      clear hc hc0
      obtain ⟨⟨o, q, key, m, c', vo, val, gone, ttl⟩, A', cp⟩ := r
      simp only at hc2 hc6 HT hrb
      obtain ⟨hb1, hb2⟩ := hrb
      have hki : (k : Int) < (ls.length : Int) := by omega
      go_wp2_with (fail)
      go_quiet (fail)
      by_cases h5 : 6000 < x + 20 + key.length + val.length
      · go_wp2_with (fail)
        go_ret
        exact ⟨true, rfl, by simp, by first | exact hch.drewN _ | exact hch⟩
      · go_wp2_with (fail)
        go_roundw
        case rel => exact ⟨k + 1, x + 20 + key.length + val.length, by omega, by go_num, by go_num, by omega, by unfold Hid; rw [HT.out, HX.out]; omega, by first | exact hch.drewN _ | exact hch⟩
        case measure => simp [intOf]; omega
    · obtain rfl : k = ls.length := by omega
      go_wp2_with (fail)
      go_ret
      refine ⟨false, rfl, fun _ => ?_, hch⟩
      have h := HX.out
      rw [List.take_length] at h
      omega

theorem enc_known : encR ⟨1, 2, [107], 3, 4, 1, [118], false, 0⟩ = [1, 2, 1, 107, 3, 4, 0, 0, 1, 118] := by decide +kernel
set_option maxRecDepth 100000 in
set_option maxHeartbeats 1600000 in
theorem knownR_any (w : World) : Calls Try.prog 14 #[] w fun e w' => e = .returned (.bool true) ∧ Chg [] w w' := by
  have kc := fun (w : World) (C : Array Value) (n c : Nat) => Lib.run_convert_bytes_const (P := Try.prog) w 24 5 C n c Try.underlying24 Try.underlying5
  go_enter Try.func14, Try.ntmps14
  go_wp2_with (fail)
  refine (recEncode_yes _ 1 2 [107] 3 4 1 (some ⟨w.heap.size, 0, none⟩) [118] 1 false 0 (by decide +kernel) (Rd.new' rfl rfl rfl)).mono ?_
  rintro e w1 ⟨A1, c1, rfl, hown1, hch1⟩
  rw [enc_known] at hown1 ⊢
  clear kc
  go_wp2_with (fail)
  refine (same_any _ _ _ _ _ _ _ [1, 2, 1, 107, 3, 4, 0, 0, 1, 118] [1, 2, 1, 107, 3, 4, 0, 0, 1, 118] rfl rfl ((Rd.of_own hown1).alloc _) (Rd.new' rfl rfl rfl) (by simp)).mono ?_
  rintro e w2 ⟨rfl, hch2⟩
  go_wp2_with (fail)
  go_ret
  exact ⟨rfl, ((((Chg.refl [] w).alloc _).trans hch1 (by simp)).alloc _).trans hch2 (by simp)⟩
end Go.Proofs.Ytlccjdcmhfhoeaa
