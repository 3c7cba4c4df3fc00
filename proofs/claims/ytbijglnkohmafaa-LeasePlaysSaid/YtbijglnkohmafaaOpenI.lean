/-
  How a slice is opened whose elements are ints through and through (structs of ints and of such structs).
-/
import Derived.Test.YtbijglnkohmafaaOpenS
namespace Go.Proofs.Ytbijglnkohmafaa
open Go.Joins Go.ChangeShapes Go.WideShapes Go.ChangeAt Go.RowKit Go.Deep

/-- Each cell of the slice's n elements (s cells each) is an int. -/
structure RdI (w : World) (s : Nat) (A : Option Addr) (n : Nat) : Prop where
  at_ : 0 < n → ∃ ad : Addr, A = some ad ∧ ad.block < w.heap.size ∧ ∀ j, j < n * s → ∃ z : Int, w.cell? (ad.add j) = some (.int .i64 z) ∧ -9223372036854775808 ≤ z ∧ z ≤ 9223372036854775807
theorem RdI.keep0 {w w' : World} {s : Nat} {A : Option Addr} {n : Nat} (h : RdI w s A n) (hc : Chg [] w w') : RdI w' s A n := ⟨fun hn => by
  obtain ⟨ad, rfl, hb, hcell⟩ := h.at_ hn
  exact ⟨ad, rfl, Nat.lt_of_lt_of_le hb hc.size, fun j hj => by
    obtain ⟨z, h1, h2⟩ := hcell j hj
    exact ⟨z, (hc.cell (by rw [add_block]; exact hb) (by simp)).trans h1, h2⟩⟩⟩
theorem RdI.get {w : World} {s : Nat} {A : Option Addr} {n : Nat} (h : RdI w s A n) {k : Nat} (hk : k < n) : ∃ ad : Addr, A = some ad ∧ ad.block < w.heap.size ∧ ∀ j, j < s → ∃ z : Int, w.cell? ((ad.add (k * s)).add j) = some (.int .i64 z) ∧ -9223372036854775808 ≤ z ∧ z ≤ 9223372036854775807 := by
  obtain ⟨ad, e, hb, hc⟩ := h.at_ (by omega)
  refine ⟨ad, e, hb, fun j hj => ?_⟩
  rw [add_add]
  refine hc _ ?_
  have : (k + 1) * s ≤ n * s := Nat.mul_le_mul_right _ hk
  rw [Nat.add_mul] at this
  omega
theorem add_off (a : Addr) {j : Nat} (h : j ≠ 0) : a.add j = ⟨a.block, a.off + j, none⟩ := by unfold Addr.add; rw [if_neg h]
/-- An element of four ints. -/
theorem RdI.get4 {w : World} {A : Option Addr} {n : Nat} (h : RdI w 4 A n) {k : Nat} (hk : k < n) : ∃ (ad : Addr) (a b c d : Int), A = some ad ∧ ad.block < w.heap.size ∧
    w.cell? (ad.add (k * 4)) = some (.int .i64 a) ∧ w.cell? ⟨(ad.add (k * 4)).block, (ad.add (k * 4)).off + 1, none⟩ = some (.int .i64 b) ∧ w.cell? ⟨(ad.add (k * 4)).block, (ad.add (k * 4)).off + 2, none⟩ = some (.int .i64 c) ∧ w.cell? ⟨(ad.add (k * 4)).block, (ad.add (k * 4)).off + 3, none⟩ = some (.int .i64 d) := by
  obtain ⟨ad, e, hb, hc⟩ := h.get hk
  obtain ⟨a, h0, _⟩ := hc 0 (by omega)
  obtain ⟨b, h1, _⟩ := hc 1 (by omega)
  obtain ⟨c, h2, _⟩ := hc 2 (by omega)
  obtain ⟨d, h3, _⟩ := hc 3 (by omega)
  exact ⟨ad, a, b, c, d, e, hb, h0, h1, h2, h3⟩
/-- An element of six ints. -/
theorem RdI.get6 {w : World} {A : Option Addr} {n : Nat} (h : RdI w 6 A n) {k : Nat} (hk : k < n) : ∃ (ad : Addr) (a b c d f g : Int), A = some ad ∧ ad.block < w.heap.size ∧
    w.cell? (ad.add (k * 6)) = some (.int .i64 a) ∧ w.cell? ⟨(ad.add (k * 6)).block, (ad.add (k * 6)).off + 1, none⟩ = some (.int .i64 b) ∧ w.cell? ⟨(ad.add (k * 6)).block, (ad.add (k * 6)).off + 2, none⟩ = some (.int .i64 c) ∧ w.cell? ⟨(ad.add (k * 6)).block, (ad.add (k * 6)).off + 3, none⟩ = some (.int .i64 d) ∧
    w.cell? ⟨(ad.add (k * 6)).block, (ad.add (k * 6)).off + 4, none⟩ = some (.int .i64 f) ∧ w.cell? ⟨(ad.add (k * 6)).block, (ad.add (k * 6)).off + 5, none⟩ = some (.int .i64 g) := by
  obtain ⟨ad, e, hb, hc⟩ := h.get hk
  obtain ⟨a, h0, _⟩ := hc 0 (by omega)
  obtain ⟨b, h1, _⟩ := hc 1 (by omega)
  obtain ⟨c, h2, _⟩ := hc 2 (by omega)
  obtain ⟨d, h3, _⟩ := hc 3 (by omega)
  obtain ⟨f, h4, _⟩ := hc 4 (by omega)
  obtain ⟨g, h5, _⟩ := hc 5 (by omega)
  exact ⟨ad, a, b, c, d, f, g, e, hb, h0, h1, h2, h3, h4, h5⟩

section
variable {H : Type} {enc : TypeId × Value → H} {P : Program} {w : World} {base : Nat} {spare : Nat → Bool} {held : Bool}

/-- What reads as this type is ints alone. -/
def IntsT (enc : TypeId × Value → H) (P : Program) (w : World) (base : Nat) (spare : Nat → Bool) (held : Bool) (t : TypeId) : Prop :=
  ∀ (n : Nat) (c : List Value) (y : DataW H × List MemPlace), DataW.trod enc P w base spare held n t c = some y → ∀ u ∈ c, ∃ z : Int, u = .int .i64 z ∧ (Lit.int .i64 z).wf = true
theorem IntsT.int {t : TypeId} (h : P.underlying t = some (.int .i64)) : IntsT enc P w base spare held t := fun n c y hy u hu => by
  obtain ⟨m, e, _, hw⟩ := DataW.trod_int h hy
  subst e
  obtain rfl := List.mem_singleton.1 hu
  exact ⟨m, rfl, hw⟩
def coverB (P : Program) (fs : Array Field) (n : Nat) : Bool := (List.range n).all fun i => (List.range fs.size).any fun j => match fs[j]? with | some f => decide (f.offset ≤ i) && decide (i < f.offset + P.cellsOf f.type) | none => false
theorem IntsT.struct {t : TypeId} {fs : Array Field} (hs : P.underlying t = some (.struct fs)) (hf : ∀ (j : Nat) (f : Field), fs[j]? = some f → IntsT enc P w base spare held f.type) (hc : coverB P fs (P.cellsOf t) = true) : IntsT enc P w base spare held t := by
  intro n c y hy u hu
  obtain ⟨ys, n', _, _, hlen, hyl, hg⟩ := DataW.trod_struct hs hy
  obtain ⟨i, hi, rfl⟩ := List.getElem_of_mem hu
  unfold coverB at hc
  rw [List.all_eq_true] at hc
  have h1 := hc i (by rw [List.mem_range]; omega)
  rw [List.any_eq_true] at h1
  obtain ⟨j, _, h2⟩ := h1
  cases hj : fs[j]? with
  | none => rw [hj] at h2; simp at h2
  | some f =>
    rw [hj] at h2
    simp only [Bool.and_eq_true, decide_eq_true_eq] at h2
    have h3 := hg j f hj
    cases hy2 : ys[j]? with
    | none =>
      have h4 := List.getElem?_eq_none_iff.1 hy2
      have h5 := (Array.getElem?_eq_some_iff.1 hj).1
      omega
    | some y2 =>
      rw [hy2] at h3
      refine hf j f hj _ _ _ h3 _ ?_
      refine List.mem_of_getElem? (i := i - f.offset) ?_
      rw [List.getElem?_take_of_lt (by omega), List.getElem?_drop, show f.offset + (i - f.offset) = i by omega, List.getElem?_eq_getElem hi]
/-- A slice of such. -/
theorem open_rdi {t e : TypeId} {s : Nat} {fuel : Nat} {cs : List Value} {x : DataW H × List MemPlace} (ht : P.underlying t = some (.slice e)) (hC : P.cellsOf e = s) (hI : IntsT enc P w base spare held e) (hsz : 0 < s)
    (h : DataW.trod enc P w base spare held fuel t cs = some x) :
    ∃ (A : Option Addr) (n c : Nat), cs = [.slice A n c] ∧ RdI w s A n ∧ n ≤ c ∧ c ≤ maxLen := by
  rcases Go.Deep.open_slice ht h with ⟨rfl, _⟩ | ⟨a, len, cap, m, n, D, Pl, rfl, _, hl, hm, hmm, _, hi⟩
  · exact ⟨none, 0, 0, rfl, ⟨fun h => absurd h (by omega)⟩, Nat.le_refl _, Nat.zero_le _⟩
  · have hml : len ≤ m := by rw [hmm]; split <;> omega
    have key : ∀ j, j < len * s → ∃ z : Int, w.cell? (a.add j) = some (.int .i64 z) ∧ -9223372036854775808 ≤ z ∧ z ≤ 9223372036854775807 := by
      intro j hj
      have hq : j / s < len := Nat.div_lt_of_lt_mul (by rw [Nat.mul_comm]; exact hj)
      obtain ⟨cs', hc, htr⟩ := hi (j / s) (by omega)
      rw [hC] at hc
      obtain ⟨_, hcl, hat⟩ := World.cells?_some hc
      have hr : j % s < s := Nat.mod_lt _ hsz
      have h0 := hat (j % s) hr
      rw [add_add, Nat.mul_comm, Nat.div_add_mod] at h0
      rw [List.getElem?_eq_getElem (by omega)] at h0
      obtain ⟨z, e1, hw⟩ := hI _ _ _ htr (cs'[j % s]'(by omega)) (List.getElem_mem _)
      rw [e1] at h0
      have hb := bounds_i64 hw
      exact ⟨z, h0, hb.1, hb.2⟩
    refine ⟨some a, len, cap, rfl, ⟨fun hn => ⟨a, rfl, ?_, key⟩⟩, hl, hm⟩
    obtain ⟨z, h0, _⟩ := key 0 (Nat.mul_pos hn hsz)
    have := World.block_lt_of_cell? _ _ h0
    rwa [add_block] at this
end
end Go.Proofs.Ytbijglnkohmafaa
