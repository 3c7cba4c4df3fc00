
/-
  Chapter 18's laws: 'known'.
-/
import Derived.Test.YtdfkednggjelcaaStrL
namespace Go.Proofs.Ytdfkednggjelcaa
open Go.RowKit
set_option linter.unusedVariables false
/-! ### known -/
theorem recO_cells (q : Int) (h0 : 0 ≤ q) (h1 : q ≤ 1099511627776) (A : Option Addr) (cp : Nat) : (RcV.cells ⟨recO 0 q, A, cp⟩).toArray = #[.int .i64 0, .int .i64 q, .string ⟨#[107]⟩, .int .i64 q, .int .i64 0, .int .i64 0, .slice A 1 cp, .bool false, .int .i64 0] := by
  have h : max 0 (min q 1099511627776) = q := by omega
  simp only [RcV.cells, recO, h, List.length_cons, List.length_nil]
theorem known_take : takeN 0 4 0 [recO 0 3, recO 0 5, recO 0 6, recO 0 8] = someL 0 5 (2 : Int).toNat := by kernel_rfl
set_option maxRecDepth 100000 in
set_option maxHeartbeats 6400000 in
theorem knownL_any (w : World) : Calls Try.prog 11 #[] w fun e w' => e = .returned (.bool true) ∧ Chg [] w w' := by
  go_enter Try.func11, Try.ntmps11
  go_wp2_with (fail)
  refine (newIn_yes _ 1 0 4 (by decide)).mono ?_
  rintro e w1 ⟨gi, rfl, hgi, hI1, hch1⟩
  go_wp2_with (fail)
  refine (newOut_yes _ 0 1 4 (by decide)).mono ?_
  rintro e w2 ⟨go, rfl, hgo, hO2, hch2⟩
  have hI2 := hI1.keep hch2 (by simp)
  go_wp2_with (fail)
  refine (record_any _ 0 3).mono ?_
  rintro e w3 ⟨A3, p3, rfl, hv3, hch3⟩
  rw [recO_cells 3 (by decide) (by decide)]
  go_wp2_with (fail)
  refine (record_any _ 0 5).mono ?_
  rintro e w4 ⟨A4, p4, rfl, hv4, hch4⟩
  rw [recO_cells 5 (by decide) (by decide)]
  go_wp2_with (fail)
  refine (record_any _ 0 6).mono ?_
  rintro e w5 ⟨A5, p5, rfl, hv5, hch5⟩
  rw [recO_cells 6 (by decide) (by decide)]
  go_wp2_with (fail)
  refine (record_any _ 0 8).mono ?_
  rintro e w6 ⟨A6, p6, rfl, hv6, hch6⟩
  rw [recO_cells 8 (by decide) (by decide)]
  have k3 := ((hv3.keep0 hch4).keep0 hch5).keep0 hch6
  have k4 := (hv4.keep0 hch5).keep0 hch6
  have k5 := hv5.keep0 hch6
  have hc26 : Chg [] w2 w6 := ((hch3.trans hch4 (by simp)).trans hch5 (by simp)).trans hch6 (by simp)
  have hI6 := hI2.keep hc26 (by simp)
  have hO6 := hO2.keep hc26 (by simp)
  have hc6 : Chg [] w w6 := (hch1.trans hch2 (by simp)).trans hc26 (by simp)
  clear hv3 hv4 hv5 hch3 hch4 hch5 hch6 hI1 hO2 hI2 hch1 hch2 hc26
  have KV : Hid (∀ x ∈ ([⟨recO 0 3, A3, p3⟩, ⟨recO 0 5, A4, p4⟩, ⟨recO 0 6, A5, p5⟩, ⟨recO 0 8, A6, p6⟩] : List RcV), Rd w6 1 x.A x.r.val.length (cB x.r.val) ∧ x.r.val.length ≤ 140737488351232) := by
    intro x hx
    simp only [List.mem_cons, List.not_mem_nil, or_false] at hx
    rcases hx with rfl | rfl | rfl | rfl
    · exact ⟨k3.rd, by simp [recO]⟩
    · exact ⟨k4.rd, by simp [recO]⟩
    · exact ⟨k5.rd, by simp [recO]⟩
    · exact ⟨hv6.rd, by simp [recO]⟩
  go_wp2_with (fail)
  refine (take_any _ gi 1 0 4 (hI6.al _) (by omega) (by omega) (some ⟨w6.heap.size, 0, none⟩) 4 4 [⟨recO 0 3, A3, p3⟩, ⟨recO 0 5, A4, p4⟩, ⟨recO 0 6, A5, p5⟩, ⟨recO 0 8, A6, p6⟩] rfl (Rd.new' rfl ?_ (cRc_len _)) (fun x hx => ((KV.out x hx).1).alloc _) (by simp) (fun x hx => (KV.out x hx).2)).mono ?_
  · simp only [cRc, List.flatMap_cons, List.flatMap_nil, RcV.cells, recO]; rfl
  rintro e w7 ⟨A7, c7, l7, rfl, hl7, hown7, hO7, hch7⟩
  have hO8 := (hO6.al _).keep hch7 (by simp)
  have hc7 := (hc6.alloc _).trans hch7 (by simp)
  have HM7 : Hid (l7.map RcV.r = someL 0 5 (2 : Int).toNat) := hl7.out.trans known_take
  have HN7 : Hid (l7.length = 2) := by
    have h := congrArg List.length HM7.out
    rw [List.length_map, someL_len] at h
    exact h
  have R7 := Lib.hid (Rd.of_own hown7)
  clear hown7 hl7 hch7 hO6 hI6 KV k3 k4 k5 hv6 hc6
  go_wp2_with (fail)
  refine (need_any w7 go ⟨0, 1, 4, 4, 0⟩ hO8 ⟨by decide, by decide, by decide, by decide, by decide, by decide, by decide, by decide, by decide⟩ 6).mono ?_
  rintro e w8 ⟨rfl, hch8⟩
  have hc8 := hc7.trans hch8 (by simp)
  rw [show needO ⟨0, 1, 4, 4, 0⟩ 6 = (5, true) by rfl]
  clear hO8 hc7
  go_wp2_with (fail)
  refine (some_any w8 0 5 2 (by omega) (by omega) (by omega)).mono ?_
  rintro e w9 ⟨A9, c9, l9, rfl, hl9, hown9, hO9, hch9⟩
  have hc9 := hc8.trans hch9 (by simp)
  have R9 := Lib.hid (Rd.of_own hown9)
  clear hown9 hc8
  go_wp2_with (fail)
  refine (records_yes w9 A7 A9 _ _ c7 c9 l7 l9 (by rw [HM7.out, hl9.out]) rfl rfl ((R7.out.keep0 hch8).keep0 hch9) R9.out (fun x hx => ((Rd.of_own (hO7.out x hx)).keep0 hch8).keep0 hch9) (fun x hx => (hO9.out x hx).rd) (by rw [HN7.out]; omega)).mono ?_
  rintro e w10 ⟨rfl, hch10⟩
  go_wp2_with (fail)
  go_ret
  exact ⟨rfl, hc9.trans hch10 (by simp)⟩
end Go.Proofs.Ytdfkednggjelcaa
