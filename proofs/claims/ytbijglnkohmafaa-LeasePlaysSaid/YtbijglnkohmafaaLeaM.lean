
/-
  lease: a map from numbers to stamps that are held.
-/
import Derived.Test.YtbijglnkohmafaaRows
import Derived.Test.YtbijglnkohmafaaBase
import Derived.Test.YtbijglnkohmafaaKeep
import Derived.Test.YtbijglnkohmafaaStamp
import Derived.Maps.RangeWalk
namespace Go.Proofs.Ytbijglnkohmafaa
open Go.RowKit Go.Maps
set_option linter.unusedVariables false

/-- One that is held. -/
structure LV where
  id : Int
  m : Int
  c : Int
  u : Int
def hdD (m c u : Int) : DataW Unit := .agg [.lit (.int .i64 m), .lit (.int .i64 c), .lit (.int .i64 u)]
def heldR (v : Value) : Option (DataW Unit × List MemPlace) :=
  match v with
  | .agg cs => match cs.toList with
    | [.int .i64 m, .int .i64 c, .int .i64 u] => some (hdD m c u, [])
    | _ => none
  | _ => none
theorem heldR_mk (m c u : Int) : heldR (.agg #[.int .i64 m, .int .i64 c, .int .i64 u]) = some (hdD m c u, []) := rfl
theorem heldR_inv {v : Value} {y : DataW Unit × List MemPlace} (h : heldR v = some y) : ∃ m c u, v = .agg #[.int .i64 m, .int .i64 c, .int .i64 u] ∧ y = (hdD m c u, []) := by
  unfold heldR at h
  split at h
  · rename_i cs
    split at h
    · rename_i m c u hcs
      injection h with h
      refine ⟨m, c, u, ?_, h.symm⟩
      congr 1
      apply Array.ext'
      exact hcs
    · cases h
  · cases h
theorem hdD_inj {m c u m' c' u' : Int} (h : hdD m c u = hdD m' c' u') : m = m' ∧ c = c' ∧ u = u' := by
  unfold hdD at h
  simp at h
  exact h
/-- The one with a number. -/
def fndL (l : List LV) (k : Int) : Option LV := l.find? (fun x => x.id == k)
theorem kInt : Keyed Try.prog 3 := int_keyed Try.underlying3
theorem keyI {k : Int} (h : (Lit.int .i64 k).wf = true) : keyOf Try.prog 3 (.int .i64 k) = some (.int .i64 k) := keyOf_int_mk Try.underlying3 h
theorem zeroH (w : World) : (zeroValue 65).run Try.prog w = .ok (.agg #[.int .i64 0, .int .i64 0, .int .i64 0]) w := by kernel_rfl
/-- Block b is a map of just these. -/
structure MapL (w : World) (b : Nat) (l : List LV) : Prop where
  own : ∃ D : DataW Unit, w.ownsMap Try.prog 3 heldR b l.length D ∧ size D = l.length ∧ (∀ k, Maps.has D (.int .i64 k) = (fndL l k).isSome) ∧ (∀ k x, fndL l k = some x → ∀ z, D.atKey (.int .i64 k) z = hdD x.m x.c x.u)
  nd : (l.map LV.id).Nodup
section
variable {w w' : World} {b : Nat} {l : List LV}
theorem ownsMap_tight {D : DataW Unit} {n : Nat} (h : w.ownsMap Try.prog 3 heldR b n D) : w.ownsMap Try.prog 3 heldR b (size D) D := by
  obtain ⟨es, clock, hb, F, hs, rfl⟩ := h
  exact ⟨es, clock, hb, F, by simp [size, length_sorted], rfl⟩
theorem MapL.lt (h : MapL w b l) : b < w.heap.size := by
  obtain ⟨D, h1, _⟩ := h.own
  exact h1.lt
theorem MapL.stable (h : MapL w b l) (hk : w'.heap[b]? = w.heap[b]?) : MapL w' b l := by
  obtain ⟨D, ⟨es, clock, hb, r⟩, h2⟩ := h.own
  exact ⟨⟨D, ⟨es, clock, hk.trans hb, r⟩, h2⟩, h.nd⟩
theorem MapL.keep (h : MapL w b l) {S : List Nat} (hc : Chg S w w') (hS : b ∉ S) : MapL w' b l := h.stable (hc.block b h.lt hS)
theorem MapL.made (w : World) : MapL (w.alloc (.map #[] 0)) w.heap.size [] :=
  ⟨⟨.map [], World.ownsMap_made w _ _ _, rfl, fun k => rfl, fun k x h => by cases h⟩, List.nodup_nil⟩
theorem fndL_none {k : Int} (h : fndL l k = none) : ∀ x ∈ l, x.id ≠ k := fun x hx e => by
  have := List.find?_eq_none.1 h x hx
  simp [e] at this
theorem fndL_some {k : Int} {x : LV} (h : fndL l k = some x) : x ∈ l ∧ x.id = k := ⟨List.mem_of_find?_eq_some h, by simpa using List.find?_some h⟩
theorem MapL.put_new (h : MapL w b l) {k m c u : Int} (hk : (Lit.int .i64 k).wf = true) (hf : fndL l k = none) (hn : l.length < maxLen) :
    ∃ w', (Instr.mapUpdate 58 (.map (some b)) (.int .i64 k) (.agg #[.int .i64 m, .int .i64 c, .int .i64 u])).run Try.prog w = .ok () w' ∧ MapL w' b (l ++ [⟨k, m, c, u⟩]) ∧ Chg [b] w w' := by
  obtain ⟨D, h1, h2, h3, h4⟩ := h.own
  obtain ⟨w', hr, ho, hg⟩ := h1.update kInt Try.underlying58 hn (keyI hk) (heldR_mk m c u)
  have hhas : Maps.has D (.int .i64 k) = false := by rw [h3, hf]; rfl
  have hsz : size (D.put (.int .i64 k) (hdD m c u)) = l.length + 1 := by rw [size_put (h1.tidy kInt), hhas]; simp [h2]
  refine ⟨w', hr, ⟨⟨_, by rw [List.length_append]; exact ho, by rw [hsz]; simp, fun k' => ?_, fun k' x hx z => ?_⟩, ?_⟩, Chg.of_grown hg⟩
  · by_cases e : k' = k
    · subst e
      rw [has_put_same h1.isMap (show WideAt.IsKeyLit (.int .i64 _) from trivial)]
      unfold fndL
      rw [List.find?_append]
      have : List.find? (fun x => x.id == k') l = none := hf
      rw [this]; simp
    · rw [has_put_other (by simpa using e), h3]
      unfold fndL
      rw [List.find?_append]
      cases List.find? (fun x => x.id == k') l with
      | some y => rfl
      | none => simp [Ne.symm e]
  · unfold fndL at hx
    rw [List.find?_append] at hx
    by_cases e : k' = k
    · subst e
      have h5 : List.find? (fun x => x.id == k') l = none := hf
      rw [h5] at hx
      simp at hx
      subst hx
      exact atKey_put_same h1.isMap (show WideAt.IsKeyLit (.int .i64 _) from trivial) _ _
    · rw [atKey_put_other (by simpa using e)]
      cases h5 : List.find? (fun x => x.id == k') l with
      | some y =>
        rw [h5] at hx
        simp at hx
        subst hx
        exact h4 k' y h5 z
      | none =>
        rw [h5] at hx
        simp [Ne.symm e] at hx
  · rw [List.map_append, List.nodup_append]
    refine ⟨h.nd, by simp, fun a ha c' hc' => ?_⟩
    simp at hc'
    subst hc'
    obtain ⟨x, hx, rfl⟩ := List.mem_map.1 ha
    exact fndL_none hf x hx
/-- One is written over. -/
def setL (l : List LV) (k m c u : Int) : List LV := l.map fun x => if x.id = k then ⟨k, m, c, u⟩ else x
theorem setL_ids (l : List LV) (k m c u : Int) : (setL l k m c u).map LV.id = l.map LV.id := by
  unfold setL
  rw [List.map_map]
  apply List.map_congr_left
  intro x _
  simp only [Function.comp]
  split
  · rename_i e; exact e.symm
  · rfl
theorem fndL_set_same {l : List LV} {k m c u : Int} {x : LV} (h : fndL l k = some x) : fndL (setL l k m c u) k = some ⟨k, m, c, u⟩ := by
  unfold fndL setL at *
  induction l with
  | nil => simp at h
  | cons a l ih =>
    rw [List.map_cons]
    by_cases e : a.id = k
    · simp [e]
    · rw [List.find?_cons_of_neg (by simpa using e)] at h
      rw [List.find?_cons_of_neg (by simp [e])]
      exact ih h
theorem fndL_set_other {l : List LV} {k k' m c u : Int} (hne : k' ≠ k) : fndL (setL l k m c u) k' = fndL l k' := by
  unfold fndL setL
  induction l with
  | nil => rfl
  | cons a l ih =>
    rw [List.map_cons]
    by_cases e : a.id = k
    · rw [if_pos e, List.find?_cons_of_neg (by simpa using Ne.symm hne), List.find?_cons_of_neg (by simp [e]; exact Ne.symm hne)]
      exact ih
    · rw [if_neg e]
      by_cases e2 : a.id = k'
      · simp [e2]
      · rw [List.find?_cons_of_neg (by simpa using e2), List.find?_cons_of_neg (by simpa using e2)]
        exact ih
theorem MapL.put_old (h : MapL w b l) {k m c u : Int} (hk : (Lit.int .i64 k).wf = true) {x : LV} (hf : fndL l k = some x) (hn : l.length < maxLen) :
    ∃ w', (Instr.mapUpdate 58 (.map (some b)) (.int .i64 k) (.agg #[.int .i64 m, .int .i64 c, .int .i64 u])).run Try.prog w = .ok () w' ∧ MapL w' b (setL l k m c u) ∧ Chg [b] w w' := by
  obtain ⟨D, h1, h2, h3, h4⟩ := h.own
  obtain ⟨w', hr, ho, hg⟩ := h1.update kInt Try.underlying58 hn (keyI hk) (heldR_mk m c u)
  have hhas : Maps.has D (.int .i64 k) = true := by rw [h3, hf]; rfl
  have hlen : (setL l k m c u).length = l.length := by simp [setL]
  have hsz : size (D.put (.int .i64 k) (hdD m c u)) = l.length := by rw [size_put (h1.tidy kInt), hhas]; simp [h2]
  have ho2 := ownsMap_tight ho
  rw [hsz] at ho2
  refine ⟨w', hr, ⟨⟨_, by rw [hlen]; exact ho2, by rw [hsz, hlen], fun k' => ?_, fun k' y hx z => ?_⟩, by rw [setL_ids]; exact h.nd⟩, Chg.of_grown hg⟩
  · by_cases e : k' = k
    · subst e
      rw [has_put_same h1.isMap (show WideAt.IsKeyLit (.int .i64 _) from trivial), fndL_set_same hf]; rfl
    · rw [has_put_other (by simpa using e), h3, fndL_set_other e]
  · by_cases e : k' = k
    · subst e
      rw [fndL_set_same hf] at hx
      injection hx with hx
      subst hx
      exact atKey_put_same h1.isMap (show WideAt.IsKeyLit (.int .i64 _) from trivial) _ _
    · rw [atKey_put_other (by simpa using e)]
      rw [fndL_set_other e] at hx
      exact h4 k' y hx z
/-- One is taken out. -/
def delL (l : List LV) (k : Int) : List LV := l.filter fun x => !(x.id == k)
theorem fndL_del_same (l : List LV) (k : Int) : fndL (delL l k) k = none := by
  unfold fndL delL
  rw [List.find?_eq_none]
  intro x hx
  have := (List.mem_filter.1 hx).2
  simpa using this
theorem fndL_del_other {l : List LV} {k k' : Int} (hne : k' ≠ k) : fndL (delL l k) k' = fndL l k' := by
  unfold fndL delL
  induction l with
  | nil => rfl
  | cons a l ih =>
    by_cases e : a.id = k
    · rw [List.filter_cons_of_neg (by simp [e]), ih, List.find?_cons_of_neg (by simp [e]; exact Ne.symm hne)]
    · rw [List.filter_cons_of_pos (by simpa using e)]
      by_cases e2 : a.id = k'
      · simp [e2]
      · rw [List.find?_cons_of_neg (by simpa using e2), List.find?_cons_of_neg (by simpa using e2)]
        exact ih
theorem delL_len {l : List LV} (hn : (l.map LV.id).Nodup) (k : Int) : (delL l k).length + (if (fndL l k).isSome then 1 else 0) = l.length := by
  unfold delL fndL
  induction l with
  | nil => rfl
  | cons a l ih =>
    rw [List.map_cons, List.nodup_cons] at hn
    by_cases e : a.id = k
    · have h0 : List.filter (fun x => !(x.id == k)) l = l := List.filter_eq_self.2 (fun x hx => by
        have : x.id ≠ k := fun e2 => hn.1 (by rw [e, ← e2]; exact List.mem_map_of_mem hx)
        simpa using this)
      rw [List.filter_cons_of_neg (by simp [e]), h0]
      simp [e]
    · rw [List.filter_cons_of_pos (by simpa using e), List.find?_cons_of_neg (by simpa using e), List.length_cons, List.length_cons]
      have := ih hn.2
      omega
theorem MapL.drop (h : MapL w b l) {k : Int} (hk : (Lit.int .i64 k).wf = true) (ty : TypeId) :
    ∃ w', (Builtin.delete_ #[58, 3] ty #[.map (some b), .int .i64 k]).run Try.prog w = .ok (.tuple #[]) w' ∧ MapL w' b (delL l k) ∧ Chg [b] w w' := by
  obtain ⟨D, h1, h2, h3, h4⟩ := h.own
  obtain ⟨w', hr, ho, hg⟩ := h1.drop kInt Try.underlying58 (keyI hk) ty
  have hsz := size_del (h1.tidy kInt) (k := .int .i64 k)
  rw [h3, h2] at hsz
  have hl := delL_len h.nd k
  have hsz2 : size (D.del (.int .i64 k)) = (delL l k).length := by omega
  have ho2 := ownsMap_tight ho
  rw [hsz2] at ho2
  refine ⟨w', hr, ⟨⟨_, ho2, hsz2, fun k' => ?_, fun k' y hx z => ?_⟩, ?_⟩, Chg.of_grown hg.grown⟩
  · by_cases e : k' = k
    · subst e
      rw [has_del_same, fndL_del_same]; rfl
    · rw [has_del_other (by simpa using e), h3, fndL_del_other e]
  · by_cases e : k' = k
    · subst e
      rw [fndL_del_same] at hx; cases hx
    · rw [atKey_del_other (by simpa using e)]
      rw [fndL_del_other e] at hx
      exact h4 k' y hx z
  · exact h.nd.sublist ((List.filter_sublist).map _)
theorem MapL.look_no (h : MapL w b l) {k : Int} (hk : (Lit.int .i64 k).wf = true) (hf : fndL l k = none) :
    (Instr.lookup 58 (.map (some b)) (.int .i64 k) true).run Try.prog w = .ok (.tuple #[.agg #[.int .i64 0, .int .i64 0, .int .i64 0], .bool false]) w := by
  obtain ⟨D, h1, h2, h3, h4⟩ := h.own
  have hhas : Maps.has D (.int .i64 k) = false := by rw [h3, hf]; rfl
  obtain ⟨v, ps, hr, hv⟩ := h1.look_ok kInt Try.underlying58 (zeroH w) (heldR_mk 0 0 0) (keyI hk)
  rw [atKey_of_not_has hhas] at hv
  obtain ⟨m, c, u, rfl, e⟩ := heldR_inv hv
  injection e with e _
  obtain ⟨rfl, rfl, rfl⟩ := hdD_inj e
  rw [hr, hhas]
theorem MapL.look_yes (h : MapL w b l) {k : Int} (hk : (Lit.int .i64 k).wf = true) {x : LV} (hf : fndL l k = some x) :
    (Instr.lookup 58 (.map (some b)) (.int .i64 k) true).run Try.prog w = .ok (.tuple #[.agg #[.int .i64 x.m, .int .i64 x.c, .int .i64 x.u], .bool true]) w := by
  obtain ⟨D, h1, h2, h3, h4⟩ := h.own
  have hhas : Maps.has D (.int .i64 k) = true := by rw [h3, hf]; rfl
  obtain ⟨v, ps, hr, hv⟩ := h1.look_ok kInt Try.underlying58 (zeroH w) (heldR_mk 0 0 0) (keyI hk)
  rw [h4 k x hf] at hv
  obtain ⟨m, c, u, rfl, e⟩ := heldR_inv hv
  injection e with e _
  obtain ⟨rfl, rfl, rfl⟩ := hdD_inj e
  rw [hr, hhas]
theorem MapL.look1 (h : MapL w b l) {k : Int} (hk : (Lit.int .i64 k).wf = true) {x : LV} (hf : fndL l k = some x) :
    (Instr.lookup 58 (.map (some b)) (.int .i64 k) false).run Try.prog w = .ok (.agg #[.int .i64 x.m, .int .i64 x.c, .int .i64 x.u]) w := by
  obtain ⟨D, h1, h2, h3, h4⟩ := h.own
  obtain ⟨v, ps, hr, hv⟩ := h1.lookup kInt Try.underlying58 (zeroH w) (heldR_mk 0 0 0) (keyI hk)
  rw [h4 k x hf] at hv
  obtain ⟨m, c, u, rfl, e⟩ := heldR_inv hv
  injection e with e _
  obtain ⟨rfl, rfl, rfl⟩ := hdD_inj e
  exact hr
theorem MapL.len (h : MapL w b l) (ty : TypeId) : (Builtin.len_ #[58] ty #[.map (some b)]).run Try.prog w = .ok (.int .i64 l.length) w := by
  obtain ⟨D, h1, h2, h3, h4⟩ := h.own
  rw [← h2]
  exact h1.len Try.underlying58 ty
end
end Go.Proofs.Ytbijglnkohmafaa
