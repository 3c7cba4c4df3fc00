/-
  How arguments are opened, each with what the reach says of it: numbers, strings, bytes, slices, structs.
-/
import Derived.Test.YtmliclfepnebfaaOpenS
import Derived.SizedLaws
namespace Go.Proofs.Ytmliclfepnebfaa
open Go.Joins Go.ChangeShapes Go.WideShapes Go.ChangeAt Go.RowKit Go.Deep

section
variable {H : Type} {enc : TypeId × Value → H} {P : Program} {w : World} {base : Nat} {spare : Nat → Bool} {held : Bool}

/-- It weighs no more than is within reach. -/
def Light (P : Program) (t : TypeId) (d : DataW H) : Prop := ∀ x ∈ d.weights P t, x ≤ 140737488351232

theorem light_all {e : TypeId} : ∀ {l : List (DataW H)}, (∀ x ∈ DataW.weightsAll P e l, x ≤ 140737488351232) → ∀ d ∈ l, Light P e d
  | [], _, d, hd => by simp at hd
  | a :: l, h, d, hd => by
    simp only [DataW.weightsAll, List.mem_append] at h
    rcases List.mem_cons.1 hd with rfl | hd
    · exact fun x hx => h x (.inl hx)
    · exact light_all (fun x hx => h x (.inr hx)) d hd
theorem light_each {ts : List TypeId} {ds : List (DataW H)} (h : ∀ x ∈ DataW.weightsEach P ts ds, x ≤ 140737488351232) {j : Nat} {t : TypeId} {d : DataW H} (ht : ts[j]? = some t) (hd : ds[j]? = some d) : Light P t d :=
  fun x hx => h x (DataW.weights_mem_each ht hd x hx)
theorem light_of {ts : List TypeId} {ds : List (DataW H)} (h : (DataW.weightsEach P ts ds).all (· ≤ reachBytes) = true) {j : Nat} {t : TypeId} {d : DataW H} (ht : ts[j]? = some t) (hd : ds[j]? = some d) : Light P t d :=
  light_each (fun x hx => of_decide_eq_true (List.all_eq_true.1 h x hx)) ht hd

/-- What reads as this type, and is light, is cells that 'f' gives. -/
def Op (enc : TypeId × Value → H) (P : Program) (w : World) (base : Nat) (spare : Nat → Bool) (held : Bool) (t : TypeId) {α : Type} (f : α → List Value) (Q : α → Prop) : Prop :=
  ∀ (n : Nat) (c : List Value) (y : DataW H × List MemPlace), DataW.trod enc P w base spare held n t c = some y → Light P t y.1 → ∃ a : α, c = f a ∧ Q a

theorem Op.int {t : TypeId} {k : IntKind} (h : P.underlying t = some (.int k)) : Op enc P w base spare held t (fun z : Int => [.int k z]) (fun z => (Lit.int k z).wf = true) := fun n c y hy _ => by
  obtain ⟨m, e, _, hw⟩ := DataW.trod_int h hy
  exact ⟨m, e, hw⟩
theorem Op.bool {t : TypeId} (h : P.underlying t = some .bool) : Op enc P w base spare held t (fun b : Bool => [.bool b]) (fun _ => True) := fun n c y hy _ => by
  obtain ⟨m, e, _⟩ := DataW.trod_bool h hy
  exact ⟨m, e, trivial⟩
theorem Op.str {t : TypeId} (h : P.underlying t = some .string) : Op enc P w base spare held t (fun l : List UInt8 => [.string ⟨l.toArray⟩]) (fun l => l.length ≤ 140737488351232) := fun n c y hy hl => by
  obtain ⟨s, e, rfl, _⟩ := DataW.trod_string h hy
  refine ⟨s.data.toList, by rw [e], hl _ ?_⟩
  simp [DataW.weights]
theorem Op.mono {t : TypeId} {α : Type} {f : α → List Value} {Q Q' : α → Prop} (h : Op enc P w base spare held t f Q) (hq : ∀ a, Q a → Q' a) : Op enc P w base spare held t f Q' := fun n c y hy hl => by
  obtain ⟨a, e, h1⟩ := h n c y hy hl
  exact ⟨a, e, hq a h1⟩

/-- A slice: where it lies, its capacity, its elements. -/
structure Sl (α : Type) where
  A : Option Addr
  c : Nat
  ls : List α

theorem slice_light {t e : TypeId} {fuel : Nat} {cs : List Value} {x : DataW H × List MemPlace} (ht : P.underlying t = some (.slice e)) (h : DataW.trod enc P w base spare held fuel t cs = some x) (hl : Light P t x.1) :
    cs = [.slice none 0 0] ∨ ∃ (a : Addr) (len cap n : Nat) (D : Nat → DataW H) (Pl : Nat → List MemPlace), cs = [.slice (some a) len cap] ∧ len ≤ cap ∧ cap ≤ maxLen ∧ len * P.bytesOf e ≤ 140737488351232 ∧
      ∀ i, i < len → ∃ cs', w.cells? base (a.add (i * P.cellsOf e)) (P.cellsOf e) = some cs' ∧ DataW.trod enc P w base spare held n e cs' = some (D i, Pl i) ∧ Light P e (D i) := by
  rcases Go.Deep.open_slice ht h with ⟨h0, _⟩ | ⟨a, len, cap, m, n, D, Pl, rfl, _, h1, hm, hmm, rfl, hi⟩
  · exact .inl h0
  · have hml : len ≤ m := by rw [hmm]; split <;> omega
    have hw : ∀ x ∈ ((((List.range len).map D).length + ((List.range (m - len)).map fun j => D (len + j)).length) * P.bytesOf e) :: (DataW.weightsAll P e ((List.range len).map D) ++ DataW.weightsAll P e ((List.range (m - len)).map fun j => D (len + j))), x ≤ 140737488351232 := by
      intro x hx
      refine hl x ?_
      show x ∈ DataW.weights P t (DataW.slice ((List.range len).map D) ((List.range (m - len)).map fun j => D (len + j)))
      rw [DataW.weights, ht]
      exact hx
    refine .inr ⟨a, len, cap, n, D, Pl, rfl, h1, hm, ?_, fun i hil => ?_⟩
    · have h2 := hw _ (List.mem_cons_self)
      simp only [List.length_map, List.length_range] at h2
      exact Nat.le_trans (Nat.mul_le_mul_right _ (by omega)) h2
    · obtain ⟨cs', h3, h4⟩ := hi i (by omega)
      refine ⟨cs', h3, h4, ?_⟩
      exact light_all (fun x hx => hw x (List.mem_cons_of_mem _ (List.mem_append_left _ hx))) (D i) (List.mem_map.2 ⟨i, List.mem_range.2 hil, rfl⟩)

theorem Op.slice {α : Type} {f : α → List Value} {Q : α → Prop} {t e : TypeId} {size bytes : Nat} (ht : P.underlying t = some (.slice e)) (hC : P.cellsOf e = size) (hB : P.bytesOf e = bytes) (hsz : 0 < size) (hlen : ∀ a, (f a).length = size) (he : Op enc P w base spare held e f Q) :
    Op enc P w base spare held t (fun r : Sl α => [.slice r.A r.ls.length r.c]) (fun r => Rd w size r.A r.ls.length (r.ls.flatMap f) ∧ r.ls.length ≤ r.c ∧ r.c ≤ maxLen ∧ r.ls.length * bytes ≤ 140737488351232 ∧ ∀ a ∈ r.ls, Q a) := fun n c y hy hl => by
  rcases slice_light ht hy hl with rfl | ⟨a, len, cap, n', D, Pl, rfl, h1, hm, hreach, hi⟩
  · exact ⟨⟨none, 0, []⟩, rfl, Rd.nil _ _ _, Nat.le_refl _, Nat.zero_le _, by simp, by simp⟩
  · have key : ∀ i, i < len → ∃ r : α, (∀ j u, (f r)[j]? = some u → w.cell? (a.add (i * size + j)) = some u) ∧ Q r := by
      intro i hil
      obtain ⟨cs', hc, htr, hlt⟩ := hi i hil
      rw [hC] at hc
      obtain ⟨r, rfl, h2⟩ := he _ _ _ htr hlt
      obtain ⟨_, hcl, hat⟩ := World.cells?_some hc
      refine ⟨r, fun j u hu => ?_, h2⟩
      have hj : j < size := by
        have := (List.getElem?_eq_some_iff.1 hu).1
        rw [hlen] at this
        exact this
      have h0 := hat j hj
      rw [add_add] at h0
      rw [h0, hu]
    have build : ∀ k, k ≤ len → ∃ ls : List α, ls.length = k ∧ (ls.flatMap f).length = k * size ∧ (∀ j u, (ls.flatMap f)[j]? = some u → w.cell? (a.add j) = some u) ∧ ∀ r ∈ ls, Q r := by
      intro k
      induction k with
      | zero => intro _; exact ⟨[], rfl, by simp, by simp, by simp⟩
      | succ k ih =>
        intro hk
        obtain ⟨ls, h1, hfl, h2, h3⟩ := ih (by omega)
        obtain ⟨r, h4, h6⟩ := key k (by omega)
        refine ⟨ls ++ [r], by simp [h1], by simp [List.flatMap_append, hfl, hlen, Nat.succ_mul], ?_, ?_⟩
        · intro j q hq
          rw [List.flatMap_append] at hq
          by_cases hj : j < (ls.flatMap f).length
          · rw [List.getElem?_append_left hj] at hq; exact h2 j q hq
          · rw [List.getElem?_append_right (by omega)] at hq
            simp only [List.flatMap_cons, List.flatMap_nil, List.append_nil] at hq
            have := h4 _ _ hq
            rw [hfl, show k * size + (j - k * size) = j by omega] at this
            exact this
        · intro q hq
          rcases List.mem_append.1 hq with hq | hq
          · exact h3 q hq
          · obtain rfl := List.mem_singleton.1 hq
            exact h6
    obtain ⟨ls, rfl, hfl, h2, h3⟩ := build len (Nat.le_refl _)
    refine ⟨⟨some a, cap, ls⟩, rfl, ⟨hfl, fun hn => ⟨a, rfl, ?_, h2⟩⟩, h1, hm, by rw [← hB]; exact hreach, h3⟩
    have hpos : 0 < (ls.flatMap f).length := by rw [hfl]; exact Nat.mul_pos hn hsz
    have := World.block_lt_of_cell? _ _ (h2 0 _ (List.getElem?_eq_getElem hpos))
    rwa [add_block] at this
theorem flat_u8 (zs : List Int) : zs.flatMap (fun z => [Value.int .u8 z]) = zs.map (Value.int .u8) := by
  induction zs with
  | nil => rfl
  | cons a l ih => rw [List.flatMap_cons, ih]; rfl
theorem Op.bytes {t e : TypeId} (ht : P.underlying t = some (.slice e)) (he : P.underlying e = some (.int .u8)) (hC : P.cellsOf e = 1) (hB : P.bytesOf e = 1) :
    Op enc P w base spare held t (fun r : SlB => [r.val]) (fun r => RdB w r ∧ r.bs.length ≤ r.c ∧ r.c ≤ maxLen ∧ r.bs.length ≤ 140737488351232) := fun n c y hy hl => by
  obtain ⟨⟨A, cp, zs⟩, rfl, hr, h1, h2, h3, hw⟩ := Op.slice ht hC hB (by omega) (fun _ => rfl) (Op.int he) n c y hy hl
  simp only at hr h1 h2 h3 hw
  have e1 : (toB zs).length = zs.length := by simp [toB]
  rw [flat_u8, ← cB_toB hw] at hr
  exact ⟨⟨A, cp, toB zs⟩, by simp [SlB.val, e1], by unfold RdB; simp only; rw [e1]; exact hr, by simp only; omega, h2, by simp only; omega⟩

theorem Op.fields {t : TypeId} {fs : Array Field} {n : Nat} {c : List Value} {y : DataW H × List MemPlace} (hs : P.underlying t = some (.struct fs)) (h : DataW.trod enc P w base spare held n t c = some y) (hl : Light P t y.1) :
    c.length = P.cellsOf t ∧ ∃ n', ∀ (i : Nat) (f : Field), fs[i]? = some f → ∃ y', DataW.trod enc P w base spare held n' f.type ((c.drop f.offset).take (P.cellsOf f.type)) = some y' ∧ Light P f.type y'.1 := by
  obtain ⟨xs, n', _, rfl, hlen, hxl, hf⟩ := DataW.trod_struct hs h
  refine ⟨hlen, n', fun i f hi => ?_⟩
  have hil := (Array.getElem?_eq_some_iff.1 hi).1
  obtain ⟨y', hy'⟩ : ∃ y', xs[i]? = some y' := ⟨xs[i]'(by omega), List.getElem?_eq_getElem (by omega)⟩
  refine ⟨y', (hf i f hi).trans hy', fun x hx => hl x ?_⟩
  show x ∈ DataW.weights P t (DataW.agg (xs.map (·.1)))
  rw [DataW.weights, hs]
  refine DataW.weights_mem_each (j := i) (t := f.type) (d := y'.1) ?_ ?_ x hx
  · rw [List.getElem?_map, ← Array.getElem?_toList] at *
    simp [hi]
  · simp [hy']

theorem Op.fields' {t : TypeId} {fs : Array Field} {n : Nat} {c : List Value} {y : DataW H × List MemPlace} (hs : P.underlying t = some (.struct fs)) (h : DataW.trod enc P w base spare held n t c = some y) (hl : Light P t y.1) :
    c.length = P.cellsOf t ∧ ∃ n', ∀ (i : Nat) (ty : TypeId) (off sz : Nat), (fs[i]?).map (fun f => (f.type, f.offset, P.cellsOf f.type)) = some (ty, off, sz) → ∃ y', DataW.trod enc P w base spare held n' ty ((c.drop off).take sz) = some y' ∧ Light P ty y'.1 := by
  obtain ⟨h1, n', hf⟩ := Op.fields hs h hl
  refine ⟨h1, n', fun i ty off sz he => ?_⟩
  cases hi : fs[i]? with
  | none => rw [hi] at he; simp at he
  | some f =>
    rw [hi] at he
    simp only [Option.map_some, Option.some.injEq, Prod.mk.injEq] at he
    obtain ⟨rfl, rfl, rfl⟩ := he
    exact hf i f hi

/-- A struct by value. -/
theorem open_op {α : Type} {f : α → List Value} {Q : α → Prop} {r : Reach} {b0 : Nat} {t : TypeId} {fs : Array Field} {v : Value} {d : DataW H} {p : List MemPlace} (hs : P.underlying t = some (.struct fs)) (hop : Op enc P w base spare held t f Q) (hl : Light P t d)
    (hv : Value.okWide P w r b0 t v) (h : DataW.Trod enc P w base spare held t v d p) : ∃ a, v = .agg (f a).toArray ∧ Q a := by
  obtain ⟨cs, rfl, hsz⟩ := okWide_struct hs hv
  obtain ⟨fuel, hf⟩ := h
  obtain ⟨a, e, hq⟩ := hop _ _ _ hf hl
  exact ⟨a, by rw [← e]; simp [Value.cells], hq⟩
/-- Anything else. -/
theorem open_op1 {α : Type} {f : α → Value} {Q : α → Prop} {t : TypeId} {v : Value} {d : DataW H} {p : List MemPlace} (hc : v.cells = #[v]) (hop : Op enc P w base spare held t (fun a => [f a]) Q) (hl : Light P t d) (h : DataW.Trod enc P w base spare held t v d p) : ∃ a, v = f a ∧ Q a := by
  obtain ⟨fuel, hf⟩ := h
  obtain ⟨a, e, hq⟩ := hop _ _ _ hf hl
  refine ⟨a, ?_, hq⟩
  rw [hc] at e
  simpa using e
end
end Go.Proofs.Ytmliclfepnebfaa
