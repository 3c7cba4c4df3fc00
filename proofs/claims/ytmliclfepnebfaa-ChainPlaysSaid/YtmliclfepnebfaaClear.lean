
/-
  The builtin clear on a slice; cells that are stored one behind the other into a block that is known whole.
-/
import Derived.Test.YtmliclfepnebfaaBase
import Derived.Laws.IdiomCopy
namespace Go.Proofs.Ytmliclfepnebfaa
open Go.RowKit
set_option linter.unusedVariables false

theorem At.setCells {g : Nat} {t : TypeId} : ∀ (vs : List Value) (o : Nat) {w : World} {l : List Value}, o + vs.length ≤ l.length → At w g t l.toArray → At (w.setCells g o vs) g t (l.take o ++ vs ++ l.drop (o + vs.length)).toArray := by
  intro vs
  induction vs with
  | nil => intro o w l _ h; show At w g t _; simpa using h
  | cons v r ih =>
    intro o w l hl h
    have h1 := h.set_ o v
    have h2 : At (w.setCell ⟨g, o, none⟩ v) g t (l.set o v).toArray := by simpa using h1
    have h3 := ih (o + 1) (l := l.set o v) (by simp at hl ⊢; omega) h2
    have ho : o < l.length := by simp at hl; omega
    have e : (l.set o v).take (o + 1) ++ r ++ (l.set o v).drop (o + 1 + r.length) = l.take o ++ (v :: r) ++ l.drop (o + (v :: r).length) := by
      rw [List.take_succ_eq_append_getElem (by simpa using ho), List.getElem_set_self, List.take_set_of_le (Nat.le_refl _), List.drop_set_of_lt (by omega)]
      simp [Nat.add_assoc, Nat.add_comm 1]
    rw [e] at h3
    exact h3
theorem Chg.setCells {S : List Nat} {a : World} {g : Nat} : ∀ (vs : List Value) (o : Nat) {w : World}, Chg S a w → (g ∈ S ∨ a.heap.size ≤ g) → Chg S a (w.setCells g o vs) := by
  intro vs
  induction vs with
  | nil => intro o w h _; exact h
  | cons v r ih => intro o w h hg; exact ih (o + 1) (h.setCell (p := ⟨g, o, none⟩) hg v) hg

/-- 'clear(s)' where s has elements in a block that may be written. -/
theorem run_clear {P : Program} (w : World) (t e : TypeId) (ty : TypeId) (ht : P.underlying t = some (.slice e)) (z : Value) (hz : (zeroValue e).run P w = .ok z w) (g o n c : Nat) (hn : 0 < n)
    (hcell : ∀ j, j < n * z.cells.size → (w.cell? ⟨g, o + j, none⟩).isSome = true) (hfree : ∀ j, j < n * z.cells.size → w.frozen? ⟨g, o + j, none⟩ = false) (h1 : ∀ v ∈ (Builtin.zeroCells z.cells n).toList, v.oneCell' = true) :
    (Builtin.clear_ #[t] ty #[.slice (some ⟨g, o, none⟩) n c]).run P w = .ok (.tuple #[]) (w.setCells g o (Builtin.zeroCells z.cells n).toList) := by
  obtain ⟨m, rfl⟩ : ∃ m, n = m + 1 := ⟨n - 1, by omega⟩
  have hl : (Builtin.zeroCells z.cells (m + 1)).toList.length = (m + 1) * z.cells.size := by simp [Builtin.zeroCells]
  have hs := run_storeCells_cells (P := P) g o (Builtin.zeroCells z.cells (m + 1)).toList 0 w (fun j hj => hcell j (by rw [hl] at hj; exact hj)) (fun j hj => hfree j (by rw [hl] at hj; exact hj)) h1
  unfold Builtin.clear_
  simp [underlying, ht, hz, hs, Result.andThen]

theorem wp_clear {P : Program} (w : World) {o : Oper} {a : Act} {K : Act → World → Prop} {Q : Exit → Act → World → Prop} (s : Operand) (t : TypeId)
    (ho : o.op = .call { callee := .builtin .clear, args := #[s], argTypes := #[t] }) (v : Value) (hs : a.eval s = v) {v' : Value} {w' : World}
    (hr : (Builtin.clear_ #[t] o.type #[v]).run P w = .ok v' w') (h : K (a.put o.dst v') w') : o.wp P a w K Q := by
  unfold Oper.wp execOp
  simp only [ho, resolve, invoke, builtin, Sem.run_bind, Sem.run_pure, Result.andThen_ok, List.map_toArray, List.map_cons, List.map_nil, hs, hr]
  exact h
theorem wpList_clear {P : Program} (w : World) {ops : Array Oper} {rest : List Oper} {o : Oper} {a : Act} {Q : Exit → Act → World → Prop} (hgd : o.guard = none) (s : Operand) (t : TypeId)
    (ho : o.op = .call { callee := .builtin .clear, args := #[s], argTypes := #[t] }) (v : Value) (hs : a.eval s = v) {v' : Value} {w' : World}
    (hr : (Builtin.clear_ #[t] o.type #[v]).run P w = .ok v' w') (h : wpList P ops Q rest (a.put o.dst v') w') : wpList P ops Q (o :: rest) a w :=
  wpList_plain hgd fun _ hK => wp_clear w s t ho v hs hr (hK _ _ h)
end Go.Proofs.Ytmliclfepnebfaa
