
/-
  How records are opened: by value, in slices.
-/
import Derived.Test.YtdfkednggjelcaaMOpen
import Derived.Test.YtdfkednggjelcaaRecW
namespace Go.Proofs.Ytdfkednggjelcaa
open Go.Joins Go.ChangeShapes Go.WideShapes Go.ChangeAt Go.RowKit Go.Deep

section
variable {H : Type} {enc : TypeId × Value → H} {w : World} {base : Nat} {spare : Nat → Bool} {held : Bool}

/-- A version's cells; what its value is. -/
structure VrV where
  m : Int
  c : Int
  vo : Int
  A : Option Addr
  val : List UInt8
  cp : Nat
  gone : Bool
  ttl : Int
def VrV.cells (x : VrV) : List Value := [.int .i64 x.m, .int .i64 x.c, .int .i64 x.vo, .slice x.A x.val.length x.cp, .bool x.gone, .int .i64 x.ttl]
structure VrV.In (w : World) (x : VrV) : Prop where
  rd : Rd w 1 x.A x.val.length (cB x.val)
  cap : x.val.length ≤ x.cp
  capm : x.cp ≤ 9223372036854775807
  vl : x.val.length ≤ 140737488351232
  m0 : -9223372036854775808 ≤ x.m
  m1 : x.m ≤ 9223372036854775807
  c0 : -9223372036854775808 ≤ x.c
  c1 : x.c ≤ 9223372036854775807
  v0 : -9223372036854775808 ≤ x.vo
  v1 : x.vo ≤ 9223372036854775807
  t0 : -9223372036854775808 ≤ x.ttl
  t1 : x.ttl ≤ 9223372036854775807
/-- What is known of a record that came in. -/
structure RcV.In (w : World) (x : RcV) : Prop where
  rd : Rd w 1 x.A x.r.val.length (cB x.r.val)
  cap : x.r.val.length ≤ x.cp
  capm : x.cp ≤ 9223372036854775807
  kl : x.r.key.length ≤ 140737488351232
  vl : x.r.val.length ≤ 140737488351232
  o0 : -9223372036854775808 ≤ x.r.o
  o1 : x.r.o ≤ 9223372036854775807
  q0 : -9223372036854775808 ≤ x.r.q
  q1 : x.r.q ≤ 9223372036854775807
  m0 : -9223372036854775808 ≤ x.r.m
  m1 : x.r.m ≤ 9223372036854775807
  c0 : -9223372036854775808 ≤ x.r.c
  c1 : x.r.c ≤ 9223372036854775807
  v0 : -9223372036854775808 ≤ x.r.vo
  v1 : x.r.vo ≤ 9223372036854775807
  t0 : -9223372036854775808 ≤ x.r.ttl
  t1 : x.r.ttl ≤ 9223372036854775807

theorem op_ver : Op enc Try.prog w base spare held 49 VrV.cells (VrV.In w) := fun n c y hy hl => by
  obtain ⟨hlen, n', hf⟩ := Op.fields' Try.underlying49 hy hl
  have hC : Try.prog.cellsOf 49 = 6 := by kernel_rfl
  rw [hC] at hlen
  match c, hlen with
  | [x0, x1, x2, x3, x4, x5], _ =>
    obtain ⟨y0, t0, _⟩ := hf 0 46 0 2 (by kernel_rfl)
    obtain ⟨y1, t1, l1⟩ := hf 1 3 2 1 (by kernel_rfl)
    obtain ⟨y2, t2, l2⟩ := hf 2 47 3 1 (by kernel_rfl)
    obtain ⟨y3, t3, l3⟩ := hf 3 4 4 1 (by kernel_rfl)
    obtain ⟨y4, t4, l4⟩ := hf 4 3 5 1 (by kernel_rfl)
    simp only [List.drop_zero, List.drop_succ_cons, List.take_succ_cons, List.take_zero] at t0 t1 t2 t3 t4
    obtain ⟨s, e0, w0, w1⟩ := trod_st Try.underlying46 Try.underlying3 Try.underlying3 (by kernel_rfl) (by kernel_rfl) t0
    obtain ⟨vo, e1, w2⟩ := Op.int Try.underlying3 _ _ _ t1 l1
    obtain ⟨r, e2, h1, h2, h3, h4⟩ := Op.bytes Try.underlying47 Try.underlying5 (by kernel_rfl) (by kernel_rfl) _ _ _ t2 l2
    obtain ⟨g, e3, _⟩ := Op.bool Try.underlying4 _ _ _ t3 l3
    obtain ⟨tt, e4, w3⟩ := Op.int Try.underlying3 _ _ _ t4 l4
    simp only [List.cons.injEq, and_true] at e0 e1 e2 e3 e4
    obtain ⟨rfl, rfl⟩ := e0
    subst e1 e2 e3 e4
    obtain ⟨b1, b2⟩ := bounds_i64 w0
    obtain ⟨b3, b4⟩ := bounds_i64 w1
    obtain ⟨b5, b6⟩ := bounds_i64 w2
    obtain ⟨b7, b8⟩ := bounds_i64 w3
    exact ⟨⟨s.m, s.c, vo, r.A, r.bs, r.c, g, tt⟩, rfl, h1, h2, h3, h4, b1, b2, b3, b4, b5, b6, b7, b8⟩
theorem op_rec : Op enc Try.prog w base spare held 51 RcV.cells (RcV.In w) := fun n c y hy hl => by
  obtain ⟨hlen, n', hf⟩ := Op.fields' Try.underlying51 hy hl
  have hC : Try.prog.cellsOf 51 = 9 := by kernel_rfl
  rw [hC] at hlen
  match c, hlen with
  | [x0, x1, x2, x3, x4, x5, x6, x7, x8], _ =>
    obtain ⟨y0, t0, l0⟩ := hf 0 3 0 1 (by kernel_rfl)
    obtain ⟨y1, t1, l1⟩ := hf 1 3 1 1 (by kernel_rfl)
    obtain ⟨y2, t2, l2⟩ := hf 2 9 2 1 (by kernel_rfl)
    obtain ⟨y3, t3, l3⟩ := hf 3 49 3 6 (by kernel_rfl)
    simp only [List.drop_zero, List.drop_succ_cons, List.take_succ_cons, List.take_zero] at t0 t1 t2 t3
    obtain ⟨o, e0, w0⟩ := Op.int Try.underlying3 _ _ _ t0 l0
    obtain ⟨q, e1, w1⟩ := Op.int Try.underlying3 _ _ _ t1 l1
    obtain ⟨key, e2, hk⟩ := Op.str Try.underlying9 _ _ _ t2 l2
    obtain ⟨v, e3, hv⟩ := op_ver _ _ _ t3 l3
    simp only [VrV.cells, List.cons.injEq, and_true] at e0 e1 e2 e3
    obtain ⟨rfl, rfl, rfl, rfl, rfl, rfl⟩ := e3
    subst e0 e1 e2
    obtain ⟨b1, b2⟩ := bounds_i64 w0
    obtain ⟨b3, b4⟩ := bounds_i64 w1
    exact ⟨⟨⟨o, q, key, v.m, v.c, v.vo, v.val, v.gone, v.ttl⟩, v.A, v.cp⟩, rfl, hv.rd, hv.cap, hv.capm, hk, hv.vl, b1, b2, b3, b4, hv.m0, hv.m1, hv.c0, hv.c1, hv.v0, hv.v1, hv.t0, hv.t1⟩
end
end Go.Proofs.Ytdfkednggjelcaa
