
/-
  chain: how versions are opened: nil bytes have no room.
-/
import Derived.Test.YtmliclfepnebfaaOpenR
namespace Go.Proofs.Ytmliclfepnebfaa
open Go.Joins Go.ChangeShapes Go.WideShapes Go.ChangeAt Go.RowKit Go.Deep
set_option linter.unusedVariables false
section
variable {H : Type} {enc : TypeId × Value → H} {w : World} {base : Nat} {spare : Nat → Bool} {held : Bool}
section
variable {P : Program}
theorem op_bytesN {t e : TypeId} (ht : P.underlying t = some (.slice e)) (he : P.underlying e = some (.int .u8)) (hC : P.cellsOf e = 1) (hB : P.bytesOf e = 1) :
    Op enc P w base spare held t (fun r : SlB => [r.val]) (fun r => RdB w r ∧ r.bs.length ≤ r.c ∧ r.c ≤ maxLen ∧ r.bs.length ≤ 140737488351232 ∧ (r.A = none → r.c = 0)) := fun n c y hy hl => by
  obtain ⟨⟨A, cp, bs⟩, e1, h1, h2, h3, h4⟩ := Op.bytes ht he hC hB n c y hy hl
  refine ⟨⟨A, cp, bs⟩, e1, h1, h2, h3, h4, fun hA => ?_⟩
  rcases slice_light ht hy hl with rfl | ⟨ad, len, cap, _, _, _, rfl, _⟩
  · simp [SlB.val] at e1
    exact e1.2.2.symm
  · simp [SlB.val] at e1
    simp only at hA
    rw [hA] at e1
    cases e1.1
end
structure VrV.InN (w : World) (x : VrV) : Prop extends VrV.In w x where
  nil_ : x.A = none → x.cp = 0
theorem op_verN : Op enc Try.prog w base spare held 28 VrV.cells (VrV.InN w) := fun n c y hy hl => by
  obtain ⟨hlen, n', hf⟩ := Op.fields' Try.underlying28 hy hl
  have hC : Try.prog.cellsOf 28 = 6 := by kernel_rfl
  rw [hC] at hlen
  match c, hlen with
  | [x0, x1, x2, x3, x4, x5], _ =>
    obtain ⟨y0, t0, _⟩ := hf 0 25 0 2 (by kernel_rfl)
    obtain ⟨y1, t1, l1⟩ := hf 1 3 2 1 (by kernel_rfl)
    obtain ⟨y2, t2, l2⟩ := hf 2 26 3 1 (by kernel_rfl)
    obtain ⟨y3, t3, l3⟩ := hf 3 4 4 1 (by kernel_rfl)
    obtain ⟨y4, t4, l4⟩ := hf 4 3 5 1 (by kernel_rfl)
    simp only [List.drop_zero, List.drop_succ_cons, List.take_succ_cons, List.take_zero] at t0 t1 t2 t3 t4
    obtain ⟨s, e0, w0, w1⟩ := trod_st Try.underlying25 Try.underlying3 Try.underlying3 (by kernel_rfl) (by kernel_rfl) t0
    obtain ⟨vo, e1, w2⟩ := Op.int Try.underlying3 _ _ _ t1 l1
    obtain ⟨r, e2, h1, h2, h3, h4, h5⟩ := op_bytesN Try.underlying26 Try.underlying5 (by kernel_rfl) (by kernel_rfl) _ _ _ t2 l2
    obtain ⟨g, e3, _⟩ := Op.bool Try.underlying4 _ _ _ t3 l3
    obtain ⟨tt, e4, w3⟩ := Op.int Try.underlying3 _ _ _ t4 l4
    simp only [List.cons.injEq, and_true] at e0 e1 e2 e3 e4
    obtain ⟨rfl, rfl⟩ := e0
    subst e1 e2 e3 e4
    obtain ⟨b1, b2⟩ := bounds_i64 w0
    obtain ⟨b3, b4⟩ := bounds_i64 w1
    obtain ⟨b5, b6⟩ := bounds_i64 w2
    obtain ⟨b7, b8⟩ := bounds_i64 w3
    exact ⟨⟨s.m, s.c, vo, r.A, r.bs, r.c, g, tt⟩, rfl, ⟨h1, h2, h3, h4, b1, b2, b3, b4, b5, b6, b7, b8⟩, h5⟩
end
end Go.Proofs.Ytmliclfepnebfaa
