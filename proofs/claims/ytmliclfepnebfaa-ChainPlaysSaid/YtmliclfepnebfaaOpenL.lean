
/-
  lease: how stamps are opened.
-/
import Derived.Test.YtmliclfepnebfaaRows
import Derived.Test.YtmliclfepnebfaaOpenG
import Derived.Test.YtmliclfepnebfaaStamp
namespace Go.Proofs.Ytmliclfepnebfaa
open Go.Joins Go.ChangeShapes Go.WideShapes Go.ChangeAt Go.RowKit Go.Deep
set_option linter.unusedVariables false
section
variable {H : Type} {enc : TypeId × Value → H} {w : World} {base : Nat} {spare : Nat → Bool} {held : Bool}
theorem op_st : Op enc Try.prog w base spare held 25 (fun s : St => [.int .i64 s.m, .int .i64 s.c]) (fun s => (Lit.int .i64 s.m).wf = true ∧ (Lit.int .i64 s.c).wf = true) := fun n c y hy hl => by
  obtain ⟨hlen, n', hf⟩ := Op.fields' Try.underlying25 hy hl
  have hC : Try.prog.cellsOf 25 = 2 := by kernel_rfl
  rw [hC] at hlen
  match c, hlen with
  | [x0, x1], _ =>
    obtain ⟨y0, t0, l0⟩ := hf 0 3 0 1 (by kernel_rfl)
    obtain ⟨y1, t1, l1⟩ := hf 1 3 1 1 (by kernel_rfl)
    simp only [List.drop_zero, List.drop_succ_cons, List.take_succ_cons, List.take_zero] at t0 t1
    obtain ⟨k, e0, w0⟩ := Op.int Try.underlying3 _ _ _ t0 l0
    obtain ⟨o, e1, w1⟩ := Op.int Try.underlying3 _ _ _ t1 l1
    simp only [List.cons.injEq, and_true] at e0 e1
    subst e0 e1
    exact ⟨⟨k, o⟩, rfl, w0, w1⟩
end
end Go.Proofs.Ytmliclfepnebfaa
