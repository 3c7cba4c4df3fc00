
/-
  net: how messages and acts are opened.
-/
import Derived.Test.YtbgdcplbekoemaaOpenG
import Derived.Test.YtbgdcplbekoemaaNetG
namespace Go.Proofs.Ytbgdcplbekoemaa
open Go.Joins Go.ChangeShapes Go.WideShapes Go.ChangeAt Go.RowKit Go.Deep
set_option linter.unusedVariables false

/-- What is known of a message before it was weighed. -/
structure MsgV.Op (w : World) (x : MsgV) : Prop where
  rd : Rd w 1 x.A x.d.length (cB x.d)
  nil : x.A = none → x.cp = 0
  dl : x.d.length ≤ 140737488351232
theorem MsgV.Op.k {w w' : World} {x : MsgV} (h : x.Op w) (hc : Chg [] w w') : x.Op w' := ⟨h.rd.keep0 hc, h.nil, h.dl⟩
section
variable {H : Type} {enc : TypeId × Value → H} {P : Program} {w : World} {base : Nat} {spare : Nat → Bool} {held : Bool}
theorem op_bytesN {t e : TypeId} (ht : P.underlying t = some (.slice e)) (he : P.underlying e = some (.int .u8)) (hC : P.cellsOf e = 1) (hB : P.bytesOf e = 1) :
    Op enc P w base spare held t (fun r : SlB => [r.val]) (fun r => RdB w r ∧ r.bs.length ≤ r.c ∧ r.c ≤ maxLen ∧ r.bs.length ≤ 140737488351232 ∧ (r.A = none → r.c = 0)) := fun n c y hy hl => by
  obtain ⟨⟨A, cp, bs⟩, e1, h1, h2, h3, h4⟩ := Op.bytes ht he hC hB n c y hy hl
  refine ⟨⟨A, cp, bs⟩, e1, h1, h2, h3, h4, fun hA => ?_⟩
  rcases slice_light ht hy hl with rfl | ⟨ad, len, cap, _, _, _, rfl, _⟩
  · simp [SlB.val] at e1
    exact e1.2.2.symm
  · simp [SlB.val] at e1
    simp only at hA
    rw [hA] at e1
    cases e1.1
end
section
variable {H : Type} {enc : TypeId × Value → H} {w : World} {base : Nat} {spare : Nat → Bool} {held : Bool}
theorem op_msg : Op enc Try.prog w base spare held 35 MsgV.cells (MsgV.Op w) := fun n c y hy hl => by
  obtain ⟨hlen, n', hf⟩ := Op.fields' Try.underlying35 hy hl
  have hC : Try.prog.cellsOf 35 = 3 := by kernel_rfl
  rw [hC] at hlen
  match c, hlen with
  | [x0, x1, x2], _ =>
    obtain ⟨y0, t0, l0⟩ := hf 0 3 0 1 (by kernel_rfl)
    obtain ⟨y1, t1, l1⟩ := hf 1 3 1 1 (by kernel_rfl)
    obtain ⟨y2, t2, l2⟩ := hf 2 33 2 1 (by kernel_rfl)
    simp only [List.drop_zero, List.drop_succ_cons, List.take_succ_cons, List.take_zero] at t0 t1 t2
    obtain ⟨k, e0, w0⟩ := Op.int Try.underlying3 _ _ _ t0 l0
    obtain ⟨o, e1, w1⟩ := Op.int Try.underlying3 _ _ _ t1 l1
    obtain ⟨r, e2, h1, h2, h3, h4, h5⟩ := (op_bytesN Try.underlying33 Try.underlying5 (by kernel_rfl) (by kernel_rfl)) _ _ _ t2 l2
    simp only [List.cons.injEq, and_true] at e0 e1 e2
    subst e0 e1 e2
    exact ⟨⟨k, o, r.bs, r.A, r.c⟩, rfl, h1, h5, h4⟩
structure NAct where
  k : Int
  n : Int
  m : Int
  by_ : Int
  A : Option Addr
  ls : List MsgV
  c : Nat
def NAct.cells (x : NAct) : List Value := [.int .i64 x.k, .int .i64 x.n, .int .i64 x.m, .int .u8 x.by_, .slice x.A x.ls.length x.c]
structure NAct.In (w : World) (x : NAct) : Prop where
  rd : Rd w 3 x.A x.ls.length (cMs x.ls)
  cap : x.ls.length ≤ x.c
  capm : x.c ≤ maxLen
  len : x.ls.length * 40 ≤ 140737488351232
  each : ∀ a ∈ x.ls, a.Op w
  n0 : (Lit.int .i64 x.n).wf = true
  m0 : (Lit.int .i64 x.m).wf = true
  b0 : (Lit.int .u8 x.by_).wf = true
theorem NAct.In.k_ {w w' : World} {x : NAct} (h : x.In w) (hc : Chg [] w w') : x.In w' := ⟨h.rd.keep0 hc, h.cap, h.capm, h.len, fun a ha => (h.each a ha).k hc, h.n0, h.m0, h.b0⟩
def cNA (l : List NAct) : List Value := l.flatMap NAct.cells
theorem cNA_cons (a : NAct) (l : List NAct) : cNA (a :: l) = a.cells ++ cNA l := rfl
theorem cNA_len (l : List NAct) : (cNA l).length = l.length * 5 := by
  induction l with
  | nil => rfl
  | cons a l ih => rw [cNA_cons, List.length_append, ih, List.length_cons, Nat.succ_mul, Nat.add_comm]; rfl
theorem cNA_get : ∀ {l : List NAct} {k : Nat} (hk : k < l.length) {j : Nat} (hj : j < 5), (cNA l)[k * 5 + j]? = (l[k].cells)[j]?
  | a :: l, 0, _, j, hj => by
    rw [cNA_cons, Nat.zero_mul, Nat.zero_add, List.getElem?_append_left (by exact hj)]; rfl
  | a :: l, k + 1, hk, j, hj => by
    rw [cNA_cons, List.getElem?_append_right (by show 5 ≤ _; omega)]
    have e : (k + 1) * 5 + j - a.cells.length = k * 5 + j := by show (k + 1) * 5 + j - 5 = _; omega
    rw [e, cNA_get (by simpa using hk) hj]; rfl
theorem op_nact : Op enc Try.prog w base spare held 26 NAct.cells (NAct.In w) := fun n c y hy hl => by
  obtain ⟨hlen, n', hf⟩ := Op.fields' Try.underlying26 hy hl
  have hC : Try.prog.cellsOf 26 = 5 := by kernel_rfl
  rw [hC] at hlen
  match c, hlen with
  | [x0, x1, x2, x3, x4], _ =>
    obtain ⟨y0, t0, l0⟩ := hf 0 3 0 1 (by kernel_rfl)
    obtain ⟨y1, t1, l1⟩ := hf 1 3 1 1 (by kernel_rfl)
    obtain ⟨y2, t2, l2⟩ := hf 2 3 2 1 (by kernel_rfl)
    obtain ⟨y3, t3, l3⟩ := hf 3 5 3 1 (by kernel_rfl)
    obtain ⟨y4, t4, l4⟩ := hf 4 22 4 1 (by kernel_rfl)
    simp only [List.drop_zero, List.drop_succ_cons, List.take_succ_cons, List.take_zero] at t0 t1 t2 t3 t4
    obtain ⟨k, e0, w0⟩ := Op.int Try.underlying3 _ _ _ t0 l0
    obtain ⟨o, e1, w1⟩ := Op.int Try.underlying3 _ _ _ t1 l1
    obtain ⟨q, e2, w2⟩ := Op.int Try.underlying3 _ _ _ t2 l2
    obtain ⟨b, e3, w3⟩ := Op.int Try.underlying5 _ _ _ t3 l3
    obtain ⟨r, e4, h1, h2, h3, h4, h5⟩ := (Op.slice Try.underlying22 (size := 3) (bytes := 40) (by kernel_rfl) (by kernel_rfl) (by omega) (fun _ => rfl) op_msg) _ _ _ t4 l4
    simp only [List.cons.injEq, and_true] at e0 e1 e2 e3 e4
    subst e0 e1 e2 e3 e4
    exact ⟨⟨k, o, q, b, r.A, r.ls, r.c⟩, rfl, h1, h2, h3, h4, h5, w1, w2, w3⟩
end
end Go.Proofs.Ytbgdcplbekoemaa
