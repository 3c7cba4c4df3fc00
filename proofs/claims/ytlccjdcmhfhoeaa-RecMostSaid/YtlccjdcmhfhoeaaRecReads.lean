
/-
  RecReads: the walk of the law.
-/
import Derived.Test.YtlccjdcmhfhoeaaRecRd2
import Derived.Test.YtlccjdcmhfhoeaaRecEq
import Derived.Test.YtlccjdcmhfhoeaaRecL
namespace Go.Proofs.Ytlccjdcmhfhoeaa
open Go.RowKit
set_option linter.unusedVariables false

theorem decL_len {L : List UInt8} : ((decL L).getD []).length ≤ 64 := by
  unfold decL
  split
  · simp
  · split
    · simp
    · rename_i h1 _ _ _ _ h2
      split
      · have := (takeRs_len h2).1
        simp only [Option.getD_some]; omega
      · simp

set_option maxRecDepth 100000 in
set_option maxHeartbeats 3200000 in
theorem recReads_law (w : World) (x : SlB) (hx : RdB w x ∧ x.bs.length ≤ x.c ∧ x.c ≤ maxLen ∧ x.bs.length ≤ 140737488351232) :
    Calls Try.prog 8 #[.slice x.A x.bs.length x.c] w fun e w' => e = .returned (.bool true) ∧ Chg [] w w' := by
  obtain ⟨A, c, L⟩ := x
  obtain ⟨rx, hxc, _, hxl⟩ := hx
  simp only [RdB] at rx hxc hxl ⊢
  have RX := Lib.hid rx
  clear rx
  by_cases hlen : 6000 < L.length
  · go_enter Try.func8, Try.ntmps8
    go_wp2_with (fail)
    go_ret
    exact ⟨rfl, Chg.refl _ _⟩
  have hL : L.length ≤ 6000 := by omega
  clear hlen
  have h1 := Lib.hid (recReadList_any w A _ c L rfl RX.out (by omega))
  have h2 := Lib.hid (fun w hr => refReadList_any w A _ c L rfl hr hxc (by omega))
  have hll := decL_len (L := L)
  unfold RListPost at h1 h2
  obtain ⟨z, hzz⟩ : ∃ z : Int, Hid ((if (decL L).isSome then (0 : Int) else 3) = z) := ⟨_, rfl⟩
  obtain ⟨rs, hrs⟩ : ∃ rs, Hid ((decL L).getD [] = rs) := ⟨_, rfl⟩
  rw [hzz.out, hrs.out] at h1 h2
  rw [hrs.out] at hll
  clear hzz hrs
  go_enter Try.func8, Try.ntmps8
  go_wp2_with (fail)
  refine h1.out.mono ?_
  rintro e w1 ⟨A1, c1, ls, rfl, hls, hown1, hO1, hch1⟩
  have r1 := Lib.hid (Rd.of_own hown1)
  have R1 := Lib.hid (fun (x : RcV) (hx : x ∈ ls) => (Rd.of_own (hO1 x hx) : Rd w1 1 x.A x.r.val.length (cB x.r.val)))
  have HLS := Lib.hid hls
  clear hown1 hO1 hls
  go_wp2_with (fail)
  refine (h2.out w1 (RX.out.keep0 hch1)).mono ?_
  rintro e w2 ⟨A2, c2, ls2, rfl, hls2, hown2, hO2, hch2⟩
  have r2 := Lib.hid (Rd.of_own hown2)
  have R2 := Lib.hid (fun (x : RcV) (hx : x ∈ ls2) => (Rd.of_own (hO2 x hx) : Rd w2 1 x.A x.r.val.length (cB x.r.val)))
  have q1 := Lib.hid (r1.out.keep0 hch2)
  have Q1 := Lib.hid (fun (x : RcV) (hx : x ∈ ls) => (R1.out x hx).keep0 hch2)
  have HEQ := Lib.hid (HLS.out.trans hls2.symm)
  have hl1 : ls.length ≤ 64 := by have := congrArg List.length HLS.out; simp at this; omega
  have hzb : (z == z) = true := by simp
  clear hown2 hO2 hls2 r1 R1
  go_wp2_with (fail)
  (with_reducible refine (records_yes _ _ _ _ _ _ _ ls ls2 HEQ.out rfl rfl q1.out r2.out Q1.out R2.out (by omega)).mono ?_)
  rintro e w3 ⟨rfl, hch3⟩
  go_wp2_with (go_at_call 14; (with_reducible refine (knownR_any _).mono ?_); rintro e w9 ⟨rfl, hch9⟩)
  go_ret
  exact ⟨rfl, hch1.trans (hch2.trans (hch3.trans hch9 (by simp)) (by simp)) (by simp)⟩
end Go.Proofs.Ytlccjdcmhfhoeaa
