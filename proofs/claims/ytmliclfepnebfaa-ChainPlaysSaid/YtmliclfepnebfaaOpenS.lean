/-
  How arguments are opened: stamps by value, slices of stamps; any struct of ints, any slice of such.
-/
import Derived.Test.YtmliclfepnebfaaOpen
import Derived.Test.YtmliclfepnebfaaStamp
import Derived.Lib.SmallJoins
namespace Go.Proofs.Ytmliclfepnebfaa
open Go.Joins Go.ChangeShapes Go.WideShapes Go.ChangeAt Go.RowKit Go.Deep

section
variable {H : Type} {enc : TypeId × Value → H} {P : Program} {w : World} {base : Nat} {spare : Nat → Bool} {held : Bool}

/-- A stamp by value. -/
theorem open_st {r : Reach} {b0 : Nat} {t : TypeId} {f0 f1 : Field} {v : Value} {d : DataW H} {p : List MemPlace} (hs : P.underlying t = some (.struct #[f0, f1])) (h0 : P.underlying f0.type = some (.int .i64)) (h1 : P.underlying f1.type = some (.int .i64))
    (hone : oneCellFields P #[f0, f1] = true) (hC : P.cellsOf t = 2) (hv : Value.okWide P w r b0 t v) (h : DataW.Trod enc P w base spare held t v d p) :
    ∃ m c : Int, v = .agg #[.int .i64 m, .int .i64 c] ∧ (Lit.int .i64 m).wf = true ∧ (Lit.int .i64 c).wf = true := by
  obtain ⟨v0, v1, y0, y1, n, rfl, rfl, rfl, t0, t1⟩ := open_agg2 hs hone hC hv h
  obtain ⟨m, e0, _, w0⟩ := DataW.trod_int h0 t0
  obtain ⟨c, e1, _, w1⟩ := DataW.trod_int h1 t1
  simp only [List.cons.injEq, and_true] at e0 e1
  subst e0 e1
  exact ⟨m, c, rfl, w0, w1⟩

/-- Any slice, each of whose elements reads by 'rd' as some cells that 'f' gives. -/
theorem open_list {α : Type} (f : α → List Value) (Q : World → α → Prop) {t e : TypeId} {size : Nat} {fuel : Nat} {cs : List Value} {x : DataW H × List MemPlace} (ht : P.underlying t = some (.slice e)) (hC : P.cellsOf e = size) (hsz : 0 < size)
    (hrd : ∀ (n : Nat) (c : List Value) (y : DataW H × List MemPlace), DataW.trod enc P w base spare held n e c = some y → ∃ a : α, c = f a ∧ (f a).length = size ∧ Q w a)
    (h : DataW.trod enc P w base spare held fuel t cs = some x) :
    ∃ (A : Option Addr) (c : Nat) (ls : List α), cs = [.slice A ls.length c] ∧ Rd w size A ls.length (ls.flatMap f) ∧ ls.length ≤ c ∧ c ≤ maxLen ∧ ∀ r ∈ ls, (f r).length = size ∧ Q w r := by
  rcases Go.Deep.open_slice ht h with ⟨rfl, _⟩ | ⟨a, len, cap, m, n, D, Pl, rfl, _, hl, hm, hmm, _, hi⟩
  · exact ⟨none, 0, [], rfl, Rd.nil _ _ _, Nat.le_refl _, Nat.zero_le _, by simp⟩
  · have hml : len ≤ m := by rw [hmm]; split <;> omega
    have key : ∀ i, i < len → ∃ r : α, (∀ j u, (f r)[j]? = some u → w.cell? (a.add (i * size + j)) = some u) ∧ (f r).length = size ∧ Q w r := by
      intro i hil
      obtain ⟨cs', hc, htr⟩ := hi i (by omega)
      rw [hC] at hc
      obtain ⟨r, rfl, h1, h2⟩ := hrd _ _ _ htr
      obtain ⟨_, hcl, hat⟩ := World.cells?_some hc
      refine ⟨r, fun j u hu => ?_, h1, h2⟩
      have hj : j < size := by
        have := (List.getElem?_eq_some_iff.1 hu).1
        omega
      have h0 := hat j hj
      rw [add_add] at h0
      rw [h0, hu]
    have build : ∀ k, k ≤ len → ∃ ls : List α, ls.length = k ∧ (ls.flatMap f).length = k * size ∧ (∀ j u, (ls.flatMap f)[j]? = some u → w.cell? (a.add j) = some u) ∧ ∀ r ∈ ls, (f r).length = size ∧ Q w r := by
      intro k
      induction k with
      | zero => intro _; exact ⟨[], rfl, by simp, by simp, by simp⟩
      | succ k ih =>
        intro hk
        obtain ⟨ls, h1, hfl, h2, h3⟩ := ih (by omega)
        obtain ⟨r, h4, h5, h6⟩ := key k (by omega)
        refine ⟨ls ++ [r], by simp [h1], by simp [List.flatMap_append, hfl, h5, Nat.succ_mul], ?_, ?_⟩
        · intro j q hq
          rw [List.flatMap_append] at hq
          by_cases hj : j < (ls.flatMap f).length
          · rw [List.getElem?_append_left hj] at hq; exact h2 j q hq
          · rw [List.getElem?_append_right (by omega)] at hq
            simp only [List.flatMap_cons, List.flatMap_nil, List.append_nil] at hq
            have := h4 _ _ hq
            rw [hfl, show k * size + (j - k * size) = j by omega] at this
            exact this
        · intro q hq
          rcases List.mem_append.1 hq with hq | hq
          · exact h3 q hq
          · obtain rfl := List.mem_singleton.1 hq
            exact ⟨h5, h6⟩
    obtain ⟨ls, rfl, hfl, h2, h3⟩ := build len (Nat.le_refl _)
    refine ⟨some a, cap, ls, rfl, ⟨hfl, fun hn => ⟨a, rfl, ?_, h2⟩⟩, hl, hm, h3⟩
    have hpos : 0 < (ls.flatMap f).length := by rw [hfl]; exact Nat.mul_pos hn hsz
    have := World.block_lt_of_cell? _ _ (h2 0 _ (List.getElem?_eq_getElem hpos))
    rwa [add_block] at this

theorem trod_st {t : TypeId} {f0 f1 : Field} {n : Nat} {c : List Value} {y : DataW H × List MemPlace} (hs : P.underlying t = some (.struct #[f0, f1])) (h0 : P.underlying f0.type = some (.int .i64)) (h1 : P.underlying f1.type = some (.int .i64))
    (hone : oneCellFields P #[f0, f1] = true) (hC : P.cellsOf t = 2) (h : DataW.trod enc P w base spare held n t c = some y) : ∃ s : St, c = [.int .i64 s.m, .int .i64 s.c] ∧ (Lit.int .i64 s.m).wf = true ∧ (Lit.int .i64 s.c).wf = true := by
  obtain ⟨y0, y1, n', _, hl, t0, t1⟩ := trod_struct2 hs h
  obtain ⟨o0, k0⟩ := hone_of hone 0 f0 rfl
  obtain ⟨o1, k1⟩ := hone_of hone 1 f1 rfl
  rw [hC] at hl
  match c, hl with
  | [c0, c1], _ =>
    obtain ⟨m, e0, _, w0⟩ := DataW.trod_int h0 t0
    obtain ⟨k, e1, _, w1⟩ := DataW.trod_int h1 t1
    simp [o0, k0] at e0
    simp [o1, k1] at e1
    subst e0 e1
    exact ⟨⟨m, k⟩, rfl, w0, w1⟩
theorem cS_flat (l : List St) : l.flatMap (fun s => [.int .i64 s.m, .int .i64 s.c]) = cS l := by
  induction l with
  | nil => rfl
  | cons a l ih => rw [List.flatMap_cons, ih]; rfl
theorem st_wf {s : St} (h0 : (Lit.int .i64 s.m).wf = true) (h1 : (Lit.int .i64 s.c).wf = true) : s.wf := by
  have a := bounds_i64 h0
  have b := bounds_i64 h1
  exact ⟨a.1, a.2, b.1, b.2⟩
/-- A slice of stamps. -/
theorem open_sts {t e : TypeId} {f0 f1 : Field} {fuel : Nat} {cs : List Value} {x : DataW H × List MemPlace} (ht : P.underlying t = some (.slice e)) (hs : P.underlying e = some (.struct #[f0, f1])) (h0 : P.underlying f0.type = some (.int .i64)) (h1 : P.underlying f1.type = some (.int .i64))
    (hone : oneCellFields P #[f0, f1] = true) (hC : P.cellsOf e = 2) (h : DataW.trod enc P w base spare held fuel t cs = some x) :
    ∃ (A : Option Addr) (c : Nat) (ls : List St), cs = [.slice A ls.length c] ∧ Rd w 2 A ls.length (cS ls) ∧ ls.length ≤ c ∧ c ≤ maxLen ∧ ∀ s ∈ ls, s.wf := by
  obtain ⟨A, c, ls, h2, h3, h4, h5, h6⟩ := open_list (fun s : St => [.int .i64 s.m, .int .i64 s.c]) (fun _ s => s.wf) ht hC (by omega)
    (fun n c y hy => by
      obtain ⟨s, rfl, w0, w1⟩ := trod_st hs h0 h1 hone hC hy
      exact ⟨s, rfl, rfl, st_wf w0 w1⟩) h
  rw [cS_flat] at h3
  exact ⟨A, c, ls, h2, h3, h4, h5, fun s hs => (h6 s hs).2⟩
end
end Go.Proofs.Ytmliclfepnebfaa
