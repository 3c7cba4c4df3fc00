
/-
  ChainOfNothing: the walk of the law.
-/
import Derived.Test.YtmliclfepnebfaaChU
namespace Go.Proofs.Ytmliclfepnebfaa
open Go.RowKit
set_option linter.unusedVariables false
set_option linter.unusedSimpArgs false
set_option maxRecDepth 100000 in
set_option maxHeartbeats 6400000 in
theorem chainOfNothing_law (w : World) (x : VrV) (hx : x.In w) (s : St) (hs : (Lit.int .i64 s.m).wf = true ∧ (Lit.int .i64 s.c).wf = true) :
    Calls Try.prog 7 #[.agg x.cells.toArray, .agg #[.int .i64 s.m, .int .i64 s.c]] w fun e w' => e = .returned (.bool true) ∧ Chg [] w w' := by
  obtain ⟨m, c, o, A, d, p, g, t⟩ := x
  obtain ⟨sm, sc⟩ := s
  clear hx hs
  show Calls Try.prog 7 #[.agg #[.int .i64 m, .int .i64 c, .int .i64 o, .slice A d.length p, .bool g, .int .i64 t], .agg #[.int .i64 sm, .int .i64 sc]] w _
  have HB0 := Lib.hid ((At.new w 28 #[.int .i64 m, .int .i64 c, .int .i64 o, .slice A d.length p, .bool g, .int .i64 t]).al (.cells #[.int .i64 sm, .int .i64 sc] 25))
  have HS0 := Lib.hid (At.newG (w.alloc (.cells #[.int .i64 m, .int .i64 c, .int .i64 o, .slice A d.length p, .bool g, .int .i64 t] 28)) 25 #[.int .i64 sm, .int .i64 sc] (g := w.heap.size + 1) (by simp))
  have HC0 := Lib.hid (((Chg.refl [] w).alloc (.cells #[.int .i64 m, .int .i64 c, .int .i64 o, .slice A d.length p, .bool g, .int .i64 t] 28)).alloc (.cells #[.int .i64 sm, .int .i64 sc] 25))
  have x0 := HB0.out.cell 0
  have x1 := HB0.out.cell 1
  have x2 := HB0.out.cell 2
  have x3 := HB0.out.cell 3
  have x4 := HB0.out.cell 4
  have x5 := HB0.out.cell 5
  have y0 := HS0.out.cell 0
  have y1 := HS0.out.cell 1
  simp only [List.getElem?_toArray, List.getElem?_cons_zero, List.getElem?_cons_succ] at x0 x1 x2 x3 x4 x5 y0 y1
  go_enter Try.func7, Try.ntmps7
  by_cases h8 : (8000 : Int) < (d.length : Int)
  · have h8b : decide ((8000 : Int) < (d.length : Int)) = true := decide_eq_true h8
    go_wp2_with (fail)
    go_ret
    exact ⟨rfl, HC0.out⟩
  have h8b : decide ((8000 : Int) < (d.length : Int)) = false := decide_eq_false h8
  go_wp2_with (fail)
  generalize (w.alloc (.cells #[.int .i64 m, .int .i64 c, .int .i64 o, .slice A d.length p, .bool g, .int .i64 t] 28)).alloc (.cells #[.int .i64 sm, .int .i64 sc] 25) = wz at *
  generalize hg0 : w.heap.size = g0 at *
  refine (at_nil wz sm sc).mono ?_
  rintro e w1 ⟨rfl, hc1⟩
  have HC1 : Hid (Chg [] w w1) := HC0.out.trans hc1 (by simp)
  have HB1 := Lib.hid ((HB0.out).keep hc1 (by simp))
  have HS1 := Lib.hid ((HS0.out).keep hc1 (by simp))
  clear x0 x1 x2 x3 x4 x5 y0 y1
  clear HB0 HS0 HC0 hc1
  have x0 := HB1.out.cell 0
  have x1 := HB1.out.cell 1
  have x2 := HB1.out.cell 2
  have x3 := HB1.out.cell 3
  have x4 := HB1.out.cell 4
  have x5 := HB1.out.cell 5
  have y0 := HS1.out.cell 0
  have y1 := HS1.out.cell 1
  simp only [List.getElem?_toArray, List.getElem?_cons_zero, List.getElem?_cons_succ] at x0 x1 x2 x3 x4 x5 y0 y1
  have hgl : g0 < w1.heap.size := HB1.out.lt
  have hgl2 : g0 + 1 < w1.heap.size := HS1.out.lt
  have HB2 := Lib.hid (HB1.out.al (.cells #[.int .i64 0, .int .i64 0, .int .i64 0, .slice none 0 0, .bool false, .int .i64 0] 28))
  have HS2 := Lib.hid (HS1.out.al (.cells #[.int .i64 0, .int .i64 0, .int .i64 0, .slice none 0 0, .bool false, .int .i64 0] 28))
  have HC2 := Lib.hid (HC1.out.alloc (.cells #[.int .i64 0, .int .i64 0, .int .i64 0, .slice none 0 0, .bool false, .int .i64 0] 28))
  go_upto_region 5 with (fail)
  clear x0 x1 x2 x3 x4 x5 y0 y1
  generalize w1.alloc (.cells #[.int .i64 0, .int .i64 0, .int .i64 0, .slice none 0 0, .bool false, .int .i64 0] 28) = w2 at *
  have x0 := HB2.out.cell 0
  have x1 := HB2.out.cell 1
  have x2 := HB2.out.cell 2
  have x3 := HB2.out.cell 3
  have x4 := HB2.out.cell 4
  have x5 := HB2.out.cell 5
  have y0 := HS2.out.cell 0
  have y1 := HS2.out.cell 1
  simp only [List.getElem?_toArray, List.getElem?_cons_zero, List.getElem?_cons_succ] at x0 x1 x2 x3 x4 x5 y0 y1
  go_wp2_with (fail)
  refine (get_nil w2 sm sc).mono ?_
  rintro e w3 ⟨rfl, hc3⟩
  have HC3 : Hid (Chg [] w w3) := HC2.out.trans hc3 (by simp)
  have HB3 := Lib.hid ((HB2.out).keep hc3 (by simp))
  have HS3 := Lib.hid ((HS2.out).keep hc3 (by simp))
  clear x0 x1 x2 x3 x4 x5 y0 y1
  clear HB2 HS2 HC2 hc3 HB1 HS1 HC1
  have x0 := HB3.out.cell 0
  have x1 := HB3.out.cell 1
  have x2 := HB3.out.cell 2
  have x3 := HB3.out.cell 3
  have x4 := HB3.out.cell 4
  have x5 := HB3.out.cell 5
  have y0 := HS3.out.cell 0
  have y1 := HS3.out.cell 1
  simp only [List.getElem?_toArray, List.getElem?_cons_zero, List.getElem?_cons_succ] at x0 x1 x2 x3 x4 x5 y0 y1
  go_wp2_with (fail)
  refine (put_nil w3 m c o A d.length p g t).mono ?_
  rintro e w4 ⟨rfl, hc4⟩
  have HC4 : Hid (Chg [] w w4) := HC3.out.trans hc4 (by simp)
  have HB4 := Lib.hid ((HB3.out).keep hc4 (by simp))
  have HS4 := Lib.hid ((HS3.out).keep hc4 (by simp))
  clear x0 x1 x2 x3 x4 x5 y0 y1
  clear HB3 HS3 HC3 hc4
  have x0 := HB4.out.cell 0
  have x1 := HB4.out.cell 1
  have x2 := HB4.out.cell 2
  have x3 := HB4.out.cell 3
  have x4 := HB4.out.cell 4
  have x5 := HB4.out.cell 5
  have y0 := HS4.out.cell 0
  have y1 := HS4.out.cell 1
  simp only [List.getElem?_toArray, List.getElem?_cons_zero, List.getElem?_cons_succ] at x0 x1 x2 x3 x4 x5 y0 y1
  go_wp2_with (fail)
  refine (trim_nil w4 sm sc).mono ?_
  rintro e w5 ⟨rfl, hc5⟩
  have HC5 : Hid (Chg [] w w5) := HC4.out.trans hc5 (by simp)
  have HB5 := Lib.hid ((HB4.out).keep hc5 (by simp))
  have HS5 := Lib.hid ((HS4.out).keep hc5 (by simp))
  clear x0 x1 x2 x3 x4 x5 y0 y1
  clear HB4 HS4 HC4 hc5
  go_wp2_with (fail)
  refine (all_nil w5).mono ?_
  rintro e w6 ⟨rfl, hc6⟩
  have HC6 : Hid (Chg [] w w6) := HC5.out.trans hc6 (by simp)
  go_wp2_with (fail)
  refine (known_any w6).mono ?_
  rintro e w7 ⟨rfl, hc7⟩
  have HC7 : Hid (Chg [] w w7) := HC6.out.trans hc7 (by simp)
  go_wp2_with (fail)
  go_ret
  exact ⟨rfl, HC7.out⟩
end Go.Proofs.Ytmliclfepnebfaa
