
/-
  Acts of the chain (chapter 15).
-/
import Derived.Test.YtmliclfepnebfaaOpenV
import Derived.Test.YtmliclfepnebfaaOpenL
import Derived.Test.YtmliclfepnebfaaChV
namespace Go.Proofs.Ytmliclfepnebfaa
open Go.RowKit
set_option linter.unusedVariables false
structure CAct where
  k : Int
  V : VrV
  s : St
def CAct.cells (x : CAct) : List Value := [.int .i64 x.k, .int .i64 x.V.m, .int .i64 x.V.c, .int .i64 x.V.vo, .slice x.V.A x.V.val.length x.V.cp, .bool x.V.gone, .int .i64 x.V.ttl, .int .i64 x.s.m, .int .i64 x.s.c]
structure CAct.In (w : World) (x : CAct) : Prop where
  V : x.V.InN w
  s1 : x.s.m ≤ 9223372036854775807
def cCA (l : List CAct) : List Value := l.flatMap CAct.cells
theorem cCA_len (l : List CAct) : (cCA l).length = l.length * 9 := by
  induction l with
  | nil => rfl
  | cons a l ih =>
    show (a.cells ++ cCA l).length = _
    rw [List.length_append, ih, List.length_cons, Nat.succ_mul, Nat.add_comm]; rfl
theorem cCA_get : ∀ {l : List CAct} {k : Nat} (hk : k < l.length) {j : Nat} (hj : j < 9), (cCA l)[k * 9 + j]? = (l[k].cells)[j]?
  | a :: l, 0, _, j, hj => by
    show (a.cells ++ cCA l)[0 * 9 + j]? = _
    rw [Nat.zero_mul, Nat.zero_add, List.getElem?_append_left (by exact hj)]; rfl
  | a :: l, k + 1, hk, j, hj => by
    show (a.cells ++ cCA l)[(k + 1) * 9 + j]? = _
    rw [List.getElem?_append_right (by show 9 ≤ _; omega)]
    have e : (k + 1) * 9 + j - a.cells.length = k * 9 + j := by show (k + 1) * 9 + j - 9 = _; omega
    rw [e, cCA_get (by simpa using hk) hj]; rfl
theorem Rd.getCA {w : World} {A : Option Addr} {n : Nat} {l : List CAct} (h : Rd w 9 A n (cCA l)) {k : Nat} (hk : k < l.length) :
    ∃ ad, A = some ad ∧ ad.block < w.heap.size ∧ w.cell? (ad.add (k * 9)) = some (.int .i64 l[k].k) ∧ ∀ j u, 0 < j → (l[k].cells)[j]? = some u → w.cell? ⟨(ad.add (k * 9)).block, (ad.add (k * 9)).off + j, none⟩ = some u := by
  have hn : n = l.length := by have := h.len; rw [cCA_len] at this; omega
  obtain ⟨ad, e, hb, hc⟩ := h.at_ (by omega)
  refine ⟨ad, e, hb, hc _ _ (by have := cCA_get hk (j := 0) (by omega); rw [Nat.add_zero] at this; rw [this]; rfl), fun j u hj hu => ?_⟩
  have hj9 : j < 9 := by
    have := (List.getElem?_eq_some_iff.1 hu).1
    exact this
  have h1 := hc (k * 9 + j) u (by rw [cCA_get hk hj9]; exact hu)
  rw [← add_add] at h1
  unfold Addr.add at h1
  rw [if_neg (show ¬ j = 0 by omega)] at h1
  exact h1
section
variable {H : Type} {enc : TypeId × Value → H} {w : World} {base : Nat} {spare : Nat → Bool} {held : Bool}
theorem op_cact : Op enc Try.prog w base spare held 30 CAct.cells (CAct.In w) := fun n c y hy hl => by
  obtain ⟨hlen, n', hf⟩ := Op.fields' Try.underlying30 hy hl
  have hC : Try.prog.cellsOf 30 = 9 := by kernel_rfl
  rw [hC] at hlen
  match c, hlen with
  | [x0, x1, x2, x3, x4, x5, x6, x7, x8], _ =>
    obtain ⟨y0, t0, l0⟩ := hf 0 3 0 1 (by kernel_rfl)
    obtain ⟨y1, t1, l1⟩ := hf 1 28 1 6 (by kernel_rfl)
    obtain ⟨y2, t2, l2⟩ := hf 2 25 7 2 (by kernel_rfl)
    simp only [List.drop_zero, List.drop_succ_cons, List.take_succ_cons, List.take_zero] at t0 t1 t2
    obtain ⟨k, e0, w0⟩ := Op.int Try.underlying3 _ _ _ t0 l0
    obtain ⟨v, e1, hv⟩ := op_verN _ _ _ t1 l1
    obtain ⟨s, e2, w1, w2⟩ := op_st _ _ _ t2 l2
    simp only [VrV.cells, List.cons.injEq, and_true] at e0 e1 e2
    obtain ⟨rfl, rfl, rfl, rfl, rfl, rfl⟩ := e1
    obtain ⟨rfl, rfl⟩ := e2
    subst e0
    exact ⟨⟨k, v, s⟩, rfl, hv, (bounds_i64 w1).2⟩
end
end Go.Proofs.Ytmliclfepnebfaa
