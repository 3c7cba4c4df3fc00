
/-
  Acts of the side that sends (chapter 18).
-/
import Derived.Test.YtdfkednggjelcaaMOpen
import Derived.Test.YtdfkednggjelcaaOpenR
import Derived.Test.YtdfkednggjelcaaRecS
namespace Go.Proofs.Ytdfkednggjelcaa
open Go.RowKit
set_option linter.unusedVariables false

structure TAct where
  k : Int
  n : Int
  m : Int
  A : Option Addr
  ls : List RcV
  c : Nat
def TAct.cells (x : TAct) : List Value := [.int .i64 x.k, .int .i64 x.n, .int .i64 x.m, .slice x.A x.ls.length x.c]
structure TAct.In (w : World) (x : TAct) : Prop where
  rd : Rd w 9 x.A x.ls.length (x.ls.flatMap RcV.cells)
  cap : x.ls.length ≤ x.c
  capm : x.c ≤ maxLen
  len : x.ls.length * 96 ≤ 140737488351232
  rs : ∀ a ∈ x.ls, a.In w
  n0 : -9223372036854775808 ≤ x.n
  n1 : x.n ≤ 9223372036854775807
def cTA (l : List TAct) : List Value := l.flatMap TAct.cells
theorem cTA_len (l : List TAct) : (cTA l).length = l.length * 4 := by
  induction l with
  | nil => rfl
  | cons a l ih =>
    show (a.cells ++ cTA l).length = _
    rw [List.length_append, ih, List.length_cons, Nat.succ_mul, Nat.add_comm]; rfl
theorem cTA_get : ∀ {l : List TAct} {k : Nat} (hk : k < l.length) {j : Nat} (hj : j < 4), (cTA l)[k * 4 + j]? = (l[k].cells)[j]?
  | a :: l, 0, _, j, hj => by
    show (a.cells ++ cTA l)[0 * 4 + j]? = _
    rw [Nat.zero_mul, Nat.zero_add, List.getElem?_append_left (by exact hj)]; rfl
  | a :: l, k + 1, hk, j, hj => by
    show (a.cells ++ cTA l)[(k + 1) * 4 + j]? = _
    rw [List.getElem?_append_right (by show 4 ≤ _; omega)]
    have e : (k + 1) * 4 + j - a.cells.length = k * 4 + j := by show (k + 1) * 4 + j - 4 = _; omega
    rw [e, cTA_get (by simpa using hk) hj]; rfl
theorem Rd.getTA {w : World} {A : Option Addr} {n : Nat} {l : List TAct} (h : Rd w 4 A n (cTA l)) {k : Nat} (hk : k < l.length) :
    ∃ ad, A = some ad ∧ ad.block < w.heap.size ∧ w.cell? (ad.add (k * 4)) = some (.int .i64 l[k].k) ∧ w.cell? ⟨(ad.add (k * 4)).block, (ad.add (k * 4)).off + 1, none⟩ = some (.int .i64 l[k].n) ∧ w.cell? ⟨(ad.add (k * 4)).block, (ad.add (k * 4)).off + 2, none⟩ = some (.int .i64 l[k].m) ∧ w.cell? ⟨(ad.add (k * 4)).block, (ad.add (k * 4)).off + 3, none⟩ = some (.slice l[k].A l[k].ls.length l[k].c) := by
  have hn : n = l.length := by have := h.len; rw [cTA_len] at this; omega
  obtain ⟨ad, e, hb, hc⟩ := h.at_ (by omega)
  have hj : ∀ j u, 0 < j → j < 4 → (l[k].cells)[j]? = some u → w.cell? ⟨(ad.add (k * 4)).block, (ad.add (k * 4)).off + j, none⟩ = some u := fun j u hj hj3 hu => by
    have h1 := hc (k * 4 + j) u (by rw [cTA_get hk hj3]; exact hu)
    rw [← add_add] at h1
    unfold Addr.add at h1
    rw [if_neg (show ¬ j = 0 by omega)] at h1
    exact h1
  exact ⟨ad, e, hb, hc _ _ (by have := cTA_get hk (j := 0) (by omega); rw [Nat.add_zero] at this; rw [this]; rfl), hj 1 _ (by omega) (by omega) rfl, hj 2 _ (by omega) (by omega) rfl, hj 3 _ (by omega) (by omega) rfl⟩

section
variable {H : Type} {enc : TypeId × Value → H} {w : World} {base : Nat} {spare : Nat → Bool} {held : Bool}
theorem op_tact : Op enc Try.prog w base spare held 71 TAct.cells (TAct.In w) := fun n c y hy hl => by
  obtain ⟨hlen, n', hf⟩ := Op.fields' Try.underlying71 hy hl
  have hC : Try.prog.cellsOf 71 = 4 := by kernel_rfl
  rw [hC] at hlen
  match c, hlen with
  | [x0, x1, x2, x3], _ =>
    obtain ⟨y0, t0, l0⟩ := hf 0 3 0 1 (by kernel_rfl)
    obtain ⟨y1, t1, l1⟩ := hf 1 3 1 1 (by kernel_rfl)
    obtain ⟨y2, t2, l2⟩ := hf 2 3 2 1 (by kernel_rfl)
    obtain ⟨y3, t3, l3⟩ := hf 3 25 3 1 (by kernel_rfl)
    simp only [List.drop_zero, List.drop_succ_cons, List.take_succ_cons, List.take_zero] at t0 t1 t2 t3
    obtain ⟨k, e0, w0⟩ := Op.int Try.underlying3 _ _ _ t0 l0
    obtain ⟨o, e1, w1⟩ := Op.int Try.underlying3 _ _ _ t1 l1
    obtain ⟨q, e2, w2⟩ := Op.int Try.underlying3 _ _ _ t2 l2
    obtain ⟨r, e3, h1, h2, h3, h4, h5⟩ := (Op.slice Try.underlying25 (size := 9) (bytes := 96) (by kernel_rfl) (by kernel_rfl) (by omega) (fun _ => rfl) op_rec) _ _ _ t3 l3
    simp only [List.cons.injEq, and_true] at e0 e1 e2 e3
    subst e0 e1 e2 e3
    obtain ⟨b3, b4⟩ := bounds_i64 w1
    exact ⟨⟨k, o, q, r.A, r.ls, r.c⟩, rfl, h1, h2, h3, h4, h5, b3, b4⟩
end
end Go.Proofs.Ytdfkednggjelcaa
