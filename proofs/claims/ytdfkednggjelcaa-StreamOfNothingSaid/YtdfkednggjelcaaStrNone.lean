
/-
  StreamOfNothing: the walk of the law.
-/
import Derived.Test.YtdfkednggjelcaaStrK
namespace Go.Proofs.Ytdfkednggjelcaa
open Go.RowKit
set_option linter.unusedVariables false

set_option maxRecDepth 100000 in
set_option maxHeartbeats 6400000 in
theorem streamOfNothing_law (w : World) (n : Int) (hn : (Lit.int .i64 n).wf = true) (x : RcV) (hx : x.In w) :
    Calls Try.prog 9 #[.int .i64 n, .agg x.cells.toArray] w fun e w' => e = .returned (.bool true) ∧ Chg [] w w' := by
  obtain ⟨⟨o, q, key, m, c, vo, val, gone, ttl⟩, A, cp⟩ := x
  obtain ⟨rx, _, _, kx, vx, _⟩ := hx
  simp only at rx kx vx ⊢
  clear rx hn
  show Calls _ _ #[.int .i64 n, .agg #[.int .i64 o, .int .i64 q, .string ⟨key.toArray⟩, .int .i64 m, .int .i64 c, .int .i64 vo, .slice A val.length cp, .bool gone, .int .i64 ttl]] w _
  have h0 := Chg.alloc (.refl [] w) (.cells #[.int .i64 o, .int .i64 q, .string ⟨key.toArray⟩, .int .i64 m, .int .i64 c, .int .i64 vo, .slice A val.length cp, .bool gone, .int .i64 ttl] 51)
  have a0 := At.new w 51 #[.int .i64 o, .int .i64 q, .string ⟨key.toArray⟩, .int .i64 m, .int .i64 c, .int .i64 vo, .slice A val.length cp, .bool gone, .int .i64 ttl]
  go_enter Try.func9, Try.ntmps9
  go_wp2_with (fail)
  have hr1 : Rd ((w.alloc (.cells #[.int .i64 o, .int .i64 q, .string ⟨key.toArray⟩, .int .i64 m, .int .i64 c, .int .i64 vo, .slice A val.length cp, .bool gone, .int .i64 ttl] 51)).alloc (.cells #[.int .i64 o, .int .i64 q, .string ⟨key.toArray⟩, .int .i64 m, .int .i64 c, .int .i64 vo, .slice A val.length cp, .bool gone, .int .i64 ttl] 51)) 9 (some ⟨w.heap.size + 1, 0, none⟩) 1 (cRc [⟨⟨o, q, key, m, c, vo, val, gone, ttl⟩, A, cp⟩]) := Rd.new' (by simp) rfl (cRc_len _)
  refine (heavyL_any _ (some ⟨w.heap.size + 1, 0, none⟩) 1 1 [⟨⟨o, q, key, m, c, vo, val, gone, ttl⟩, A, cp⟩] rfl hr1 (by show (1 : Nat) ≤ _; omega) ?_).mono ?_
  · intro x hx
    obtain rfl := List.mem_singleton.1 hx
    exact ⟨kx, vx⟩
  rintro e w1 ⟨hv, rfl, hl, hch1⟩
  have a1 := (a0.al _).keep hch1 (by simp)
  have c1 := (h0.alloc _).trans hch1 (by simp)
  clear a0 h0 hch1 hl
  cases hv
  rotate_left
  · go_wp2_with (fail)
    go_ret
    exact ⟨rfl, c1⟩
  have y0 := a1.cell 0
  have y1 := a1.cell 1
  have y2 := a1.cell 2
  have y3 := a1.cell 3
  have y4 := a1.cell 4
  have y5 := a1.cell 5
  have y6 := a1.cell 6
  have y7 := a1.cell 7
  have y8 := a1.cell 8
  simp only [List.getElem?_toArray, List.getElem?_cons_zero, List.getElem?_cons_succ] at y0 y1 y2 y3 y4 y5 y6 y7 y8
  go_wp2_with (fail)
  refine (needNil _ _).mono ?_
  rintro e w2 ⟨rfl, rfl⟩
  go_wp2_with (fail)
  refine (sendNil _ _ _ _).mono ?_
  rintro e w2 ⟨rfl, rfl⟩
  go_wp2_with (fail)
  refine (tickNil _).mono ?_
  rintro e w3 ⟨rfl, hch3⟩
  have a3 := (a1.al _).keep hch3 (by simp)
  have c3 := (c1.alloc _).trans hch3 (by simp)
  clear y0 y1 y2 y3 y4 y5 y6 y7 y8 a1 c1 hch3
  have y0 := a3.cell 0
  have y1 := a3.cell 1
  have y2 := a3.cell 2
  have y3 := a3.cell 3
  have y4 := a3.cell 4
  have y5 := a3.cell 5
  have y6 := a3.cell 6
  have y7 := a3.cell 7
  have y8 := a3.cell 8
  simp only [List.getElem?_toArray, List.getElem?_cons_zero, List.getElem?_cons_succ] at y0 y1 y2 y3 y4 y5 y6 y7 y8
  go_wp2_with (first
    | (go_at_call 26; (with_reducible refine (ackNil _ _).mono ?_); rintro e w4 ⟨rfl, rfl⟩)
    | (go_at_call 34; (with_reducible refine (ackedNil _).mono ?_); rintro e w4 ⟨rfl, rfl⟩)
    | (go_at_call 14; (with_reducible refine (takeNil _ _ _ _).mono ?_); rintro e w4 ⟨rfl, rfl⟩)
    | (go_at_call 18; (with_reducible refine (doneNil _ _).mono ?_); rintro e w4 ⟨rfl, rfl⟩)
    | (go_at_call 20; (with_reducible refine (appliedNil _).mono ?_); rintro e w4 ⟨rfl, rfl⟩)
    | (go_at_call 11; (with_reducible refine (knownL_any _).mono ?_); rintro e w9 ⟨rfl, hch9⟩))
  go_ret
  exact ⟨rfl, (c3.alloc _).trans hch9 (by simp)⟩
end Go.Proofs.Ytdfkednggjelcaa
