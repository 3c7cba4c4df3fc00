
/-
  Records in slices: their cells; what the laws' own small functions tell of them.
-/
import Derived.Test.YtdfkednggjelcaaRecW2
import Derived.Test.YtdfkednggjelcaaSameL
import Derived.Test.YtdfkednggjelcaaOpenR
namespace Go.Proofs.Ytdfkednggjelcaa
open Go.RowKit
set_option linter.unusedVariables false

def cRc (l : List RcV) : List Value := l.flatMap RcV.cells
theorem cRc_cons (a : RcV) (l : List RcV) : cRc (a :: l) = a.cells ++ cRc l := rfl
theorem cRc_app (a b : List RcV) : cRc (a ++ b) = cRc a ++ cRc b := by simp [cRc, List.flatMap_append]
theorem cRc_one' (a : RcV) : cRc [a] = a.cells := by simp [cRc]
theorem cRc_len (l : List RcV) : (cRc l).length = l.length * 9 := by
  induction l with
  | nil => rfl
  | cons a l ih => rw [cRc_cons, List.length_append, ih, List.length_cons, Nat.succ_mul, Nat.add_comm]; rfl
theorem cRc_get : ∀ {l : List RcV} {k : Nat} (hk : k < l.length) {j : Nat} (hj : j < 9), (cRc l)[k * 9 + j]? = (l[k].cells)[j]?
  | a :: l, 0, _, j, hj => by
    rw [cRc_cons, Nat.zero_mul, Nat.zero_add, List.getElem?_append_left (by exact hj)]; rfl
  | a :: l, k + 1, hk, j, hj => by
    rw [cRc_cons, List.getElem?_append_right (by show 9 ≤ _; omega)]
    have e : (k + 1) * 9 + j - a.cells.length = k * 9 + j := by show (k + 1) * 9 + j - 9 = _; omega
    rw [e, cRc_get (by simpa using hk) hj]; rfl
theorem cRc_one (l : List RcV) : ∀ u ∈ cRc l, u.oneCell' = true := by
  intro u hu
  obtain ⟨r, _, hr⟩ := List.mem_flatMap.1 hu
  simp only [RcV.cells, List.mem_cons, List.not_mem_nil, or_false] at hr
  rcases hr with rfl | rfl | rfl | rfl | rfl | rfl | rfl | rfl | rfl <;> rfl
/-- A record that stands in a slice. -/
theorem Rd.getR {w : World} {A : Option Addr} {n : Nat} {l : List RcV} (h : Rd w 9 A n (cRc l)) {k : Nat} (hk : k < l.length) :
    ∃ ad, A = some ad ∧ ad.block < w.heap.size ∧ w.cell? (ad.add (k * 9)) = some (.int .i64 l[k].r.o) ∧ ∀ j u, 0 < j → (l[k].cells)[j]? = some u → w.cell? ⟨(ad.add (k * 9)).block, (ad.add (k * 9)).off + j, none⟩ = some u := by
  have hn : n = l.length := by have := h.len; rw [cRc_len] at this; omega
  obtain ⟨ad, e, hb, hc⟩ := h.at_ (by omega)
  refine ⟨ad, e, hb, hc _ _ (by have := cRc_get hk (j := 0) (by omega); rw [Nat.add_zero] at this; rw [this]; rfl), fun j u hj hu => ?_⟩
  have hj9 : j < 9 := by
    have := (List.getElem?_eq_some_iff.1 hu).1
    exact this
  have h1 := hc (k * 9 + j) u (by rw [cRc_get hk hj9]; exact hu)
  rw [← add_add] at h1
  unfold Addr.add at h1
  rw [if_neg (show ¬ j = 0 by omega)] at h1
  exact h1
end Go.Proofs.Ytdfkednggjelcaa
