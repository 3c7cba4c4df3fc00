
/-
  Several texts in one: Open, OpenS, OpenG.
-/
import Derived.Test.YtdfkednggjelcaaMBase
import Derived.ProofKit
import Derived.OpenShut
import Derived.Deep.Slices
import Derived.Test.YtdfkednggjelcaaMStamp
import Derived.Lib.SmallJoins
import Derived.SizedLaws
namespace Go.Proofs.Ytdfkednggjelcaa
open Go.ChangeShapes Go.WideShapes Go.ChangeAt Go.RowKit Go.Deep

/-- The bytes that numbers are. -/
def toB (zs : List Int) : List UInt8 := zs.map fun z => UInt8.ofNat z.toNat
theorem cB_toB {zs : List Int} (h : ∀ z ∈ zs, (Lit.int .u8 z).wf = true) : cB (toB zs) = zs.map (Value.int .u8) := by
  unfold cB toB
  rw [List.map_map]
  refine List.map_congr_left fun z hz => ?_
  have hb := bounds_u8 (h z hz)
  simp only [Function.comp]
  congr 1
  rw [UInt8.toNat_ofNat']
  omega

section
variable {H : Type} {enc : TypeId × Value → H} {P : Program} {w : World} {base : Nat} {spare : Nat → Bool} {held : Bool}

/-- A slice of integers, whatever kind: its elements. -/
theorem open_rd {t e : TypeId} {k : IntKind} {fuel : Nat} {cs : List Value} {x : DataW H × List MemPlace} (ht : P.underlying t = some (.slice e)) (he : P.underlying e = some (.int k)) (hC : P.cellsOf e = 1)
    (h : DataW.trod enc P w base spare held fuel t cs = some x) :
    ∃ (A : Option Addr) (n c : Nat) (zs : List Int), cs = [.slice A n c] ∧ zs.length = n ∧ Rd w 1 A n (zs.map (Value.int k)) ∧ n ≤ c ∧ c ≤ maxLen ∧ ∀ z ∈ zs, (Lit.int k z).wf = true := by
  rcases open_ints ht he hC h with ⟨hcs, _⟩ | ⟨a, l, c, zs, hcs, _, hl, hm, hz, _, hcell, hwz⟩
  · exact ⟨none, 0, 0, [], hcs, rfl, Rd.nil _ _ _, Nat.le_refl _, Nat.zero_le _, by simp⟩
  · have hlz : l ≤ zs.length := by
      rw [hz]; split <;> omega
    refine ⟨some a, l, c, zs.take l, hcs, by simp; omega, ⟨by simp; omega, fun hn => ⟨a, rfl, ?_, ?_⟩⟩, hl, hm, fun z hm => hwz z (List.mem_of_mem_take hm)⟩
    · have := World.block_lt_of_cell? _ _ (hcell 0 (by omega))
      rwa [add_block] at this
    · intro j u hu
      have hj : j < l := by
        have := (List.getElem?_eq_some_iff.1 hu).1
        simp at this
        omega
      rw [hcell j (by omega)]
      rw [List.getElem?_map, List.getElem?_take_of_lt hj, List.getElem?_eq_getElem (by omega)] at hu
      simp at hu
      rw [← hu]
      simp [List.getD, show j < zs.length by omega]
theorem open_bytes {t e : TypeId} {fuel : Nat} {cs : List Value} {x : DataW H × List MemPlace} (ht : P.underlying t = some (.slice e)) (he : P.underlying e = some (.int .u8)) (hC : P.cellsOf e = 1)
    (h : DataW.trod enc P w base spare held fuel t cs = some x) :
    ∃ (A : Option Addr) (c : Nat) (bs : List UInt8), cs = [.slice A bs.length c] ∧ Rd w 1 A bs.length (cB bs) ∧ bs.length ≤ c ∧ c ≤ maxLen := by
  obtain ⟨A, n, c, zs, rfl, rfl, hr, h1, h2, hw⟩ := open_rd ht he hC h
  rw [← cB_toB hw] at hr
  have e1 : (toB zs).length = zs.length := by simp [toB]
  exact ⟨A, c, toB zs, by rw [e1], by rw [e1]; exact hr, by rw [e1]; exact h1, h2⟩
/-- Rows of bytes. -/
theorem open_rows {t e u : TypeId} {fuel : Nat} {cs : List Value} {x : DataW H × List MemPlace} (ht : P.underlying t = some (.slice e)) (he : P.underlying e = some (.slice u)) (hu : P.underlying u = some (.int .u8)) (hCe : P.cellsOf e = 1) (hC : P.cellsOf u = 1)
    (h : DataW.trod enc P w base spare held fuel t cs = some x) :
    ∃ (A : Option Addr) (c : Nat) (ls : List SlB), cs = [.slice A ls.length c] ∧ Rd w 1 A ls.length (cR ls) ∧ ls.length ≤ c ∧ c ≤ maxLen ∧ ∀ r ∈ ls, RdB w r ∧ r.bs.length ≤ r.c ∧ r.c ≤ maxLen := by
  rcases Go.Deep.open_slice ht h with ⟨rfl, _⟩ | ⟨a, len, cap, m, n, D, Pl, rfl, _, hl, hm, hmm, _, hi⟩
  · exact ⟨none, 0, [], rfl, Rd.nil _ _ _, Nat.le_refl _, Nat.zero_le _, by simp⟩
  · have hml : len ≤ m := by rw [hmm]; split <;> omega
    have key : ∀ i, i < len → ∃ r : SlB, w.cell? (a.add i) = some r.val ∧ RdB w r ∧ r.bs.length ≤ r.c ∧ r.c ≤ maxLen := by
      intro i hil
      obtain ⟨cs', hc, htr⟩ := hi i (by omega)
      rw [hCe, Nat.mul_one] at hc
      obtain ⟨A, c, bs, rfl, hr, h1, h2⟩ := open_bytes he hu hC htr
      obtain ⟨_, hcl, hat⟩ := World.cells?_some hc
      have h0 := hat 0 (by omega)
      rw [add_zero] at h0
      exact ⟨⟨A, c, bs⟩, by rw [h0]; rfl, hr, h1, h2⟩
    have build : ∀ k, k ≤ len → ∃ ls : List SlB, ls.length = k ∧ (∀ j r, ls[j]? = some r → w.cell? (a.add j) = some r.val) ∧ ∀ r ∈ ls, RdB w r ∧ r.bs.length ≤ r.c ∧ r.c ≤ maxLen := by
      intro k
      induction k with
      | zero => intro _; exact ⟨[], rfl, by simp, by simp⟩
      | succ k ih =>
        intro hk
        obtain ⟨ls, h1, h2, h3⟩ := ih (by omega)
        obtain ⟨r, h4, h5⟩ := key k (by omega)
        refine ⟨ls ++ [r], by simp [h1], ?_, ?_⟩
        · intro j q hq
          by_cases hj : j < ls.length
          · rw [List.getElem?_append_left hj] at hq; exact h2 j q hq
          · rw [List.getElem?_append_right (by omega)] at hq
            have hj0 : j - ls.length = 0 := by
              have := (List.getElem?_eq_some_iff.1 hq).1
              simp at this; omega
            rw [hj0] at hq
            simp at hq
            rw [← hq, show j = k by omega]
            exact h4
        · intro q hq
          rcases List.mem_append.1 hq with hq | hq
          · exact h3 q hq
          · obtain rfl := List.mem_singleton.1 hq
            exact h5
    obtain ⟨ls, rfl, h2, h3⟩ := build len (Nat.le_refl _)
    refine ⟨some a, cap, ls, rfl, ⟨by simp [cR_len], fun hn => ⟨a, rfl, ?_, ?_⟩⟩, hl, hm, h3⟩
    · have := World.block_lt_of_cell? _ _ (h2 0 _ (List.getElem?_eq_getElem hn))
      rwa [add_block] at this
    · intro j u hu
      simp only [cR, List.getElem?_map, Option.map_eq_some_iff] at hu
      obtain ⟨r, hr, rfl⟩ := hu
      exact h2 j r hr
end
end Go.Proofs.Ytdfkednggjelcaa
namespace Go.Proofs.Ytdfkednggjelcaa
open Go.Joins Go.ChangeShapes Go.WideShapes Go.ChangeAt Go.RowKit Go.Deep

section
variable {H : Type} {enc : TypeId × Value → H} {P : Program} {w : World} {base : Nat} {spare : Nat → Bool} {held : Bool}

/-- A stamp by value. -/
theorem open_st {r : Reach} {b0 : Nat} {t : TypeId} {f0 f1 : Field} {v : Value} {d : DataW H} {p : List MemPlace} (hs : P.underlying t = some (.struct #[f0, f1])) (h0 : P.underlying f0.type = some (.int .i64)) (h1 : P.underlying f1.type = some (.int .i64))
    (hone : oneCellFields P #[f0, f1] = true) (hC : P.cellsOf t = 2) (hv : Value.okWide P w r b0 t v) (h : DataW.Trod enc P w base spare held t v d p) :
    ∃ m c : Int, v = .agg #[.int .i64 m, .int .i64 c] ∧ (Lit.int .i64 m).wf = true ∧ (Lit.int .i64 c).wf = true := by
  obtain ⟨v0, v1, y0, y1, n, rfl, rfl, rfl, t0, t1⟩ := open_agg2 hs hone hC hv h
  obtain ⟨m, e0, _, w0⟩ := DataW.trod_int h0 t0
  obtain ⟨c, e1, _, w1⟩ := DataW.trod_int h1 t1
  simp only [List.cons.injEq, and_true] at e0 e1
  subst e0 e1
  exact ⟨m, c, rfl, w0, w1⟩

/-- Any slice, each of whose elements reads by 'rd' as some cells that 'f' gives. -/
theorem open_list {α : Type} (f : α → List Value) (Q : World → α → Prop) {t e : TypeId} {size : Nat} {fuel : Nat} {cs : List Value} {x : DataW H × List MemPlace} (ht : P.underlying t = some (.slice e)) (hC : P.cellsOf e = size) (hsz : 0 < size)
    (hrd : ∀ (n : Nat) (c : List Value) (y : DataW H × List MemPlace), DataW.trod enc P w base spare held n e c = some y → ∃ a : α, c = f a ∧ (f a).length = size ∧ Q w a)
    (h : DataW.trod enc P w base spare held fuel t cs = some x) :
    ∃ (A : Option Addr) (c : Nat) (ls : List α), cs = [.slice A ls.length c] ∧ Rd w size A ls.length (ls.flatMap f) ∧ ls.length ≤ c ∧ c ≤ maxLen ∧ ∀ r ∈ ls, (f r).length = size ∧ Q w r := by
  rcases Go.Deep.open_slice ht h with ⟨rfl, _⟩ | ⟨a, len, cap, m, n, D, Pl, rfl, _, hl, hm, hmm, _, hi⟩
  · exact ⟨none, 0, [], rfl, Rd.nil _ _ _, Nat.le_refl _, Nat.zero_le _, by simp⟩
  · have hml : len ≤ m := by rw [hmm]; split <;> omega
    have key : ∀ i, i < len → ∃ r : α, (∀ j u, (f r)[j]? = some u → w.cell? (a.add (i * size + j)) = some u) ∧ (f r).length = size ∧ Q w r := by
      intro i hil
      obtain ⟨cs', hc, htr⟩ := hi i (by omega)
      rw [hC] at hc
      obtain ⟨r, rfl, h1, h2⟩ := hrd _ _ _ htr
      obtain ⟨_, hcl, hat⟩ := World.cells?_some hc
      refine ⟨r, fun j u hu => ?_, h1, h2⟩
      have hj : j < size := by
        have := (List.getElem?_eq_some_iff.1 hu).1
        omega
      have h0 := hat j hj
      rw [add_add] at h0
      rw [h0, hu]
    have build : ∀ k, k ≤ len → ∃ ls : List α, ls.length = k ∧ (ls.flatMap f).length = k * size ∧ (∀ j u, (ls.flatMap f)[j]? = some u → w.cell? (a.add j) = some u) ∧ ∀ r ∈ ls, (f r).length = size ∧ Q w r := by
      intro k
      induction k with
      | zero => intro _; exact ⟨[], rfl, by simp, by simp, by simp⟩
      | succ k ih =>
        intro hk
        obtain ⟨ls, h1, hfl, h2, h3⟩ := ih (by omega)
        obtain ⟨r, h4, h5, h6⟩ := key k (by omega)
        refine ⟨ls ++ [r], by simp [h1], by simp [List.flatMap_append, hfl, h5, Nat.succ_mul], ?_, ?_⟩
        · intro j q hq
          rw [List.flatMap_append] at hq
          by_cases hj : j < (ls.flatMap f).length
          · rw [List.getElem?_append_left hj] at hq; exact h2 j q hq
          · rw [List.getElem?_append_right (by omega)] at hq
            simp only [List.flatMap_cons, List.flatMap_nil, List.append_nil] at hq
            have := h4 _ _ hq
            rw [hfl, show k * size + (j - k * size) = j by omega] at this
            exact this
        · intro q hq
          rcases List.mem_append.1 hq with hq | hq
          · exact h3 q hq
          · obtain rfl := List.mem_singleton.1 hq
            exact ⟨h5, h6⟩
    obtain ⟨ls, rfl, hfl, h2, h3⟩ := build len (Nat.le_refl _)
    refine ⟨some a, cap, ls, rfl, ⟨hfl, fun hn => ⟨a, rfl, ?_, h2⟩⟩, hl, hm, h3⟩
    have hpos : 0 < (ls.flatMap f).length := by rw [hfl]; exact Nat.mul_pos hn hsz
    have := World.block_lt_of_cell? _ _ (h2 0 _ (List.getElem?_eq_getElem hpos))
    rwa [add_block] at this

theorem trod_st {t : TypeId} {f0 f1 : Field} {n : Nat} {c : List Value} {y : DataW H × List MemPlace} (hs : P.underlying t = some (.struct #[f0, f1])) (h0 : P.underlying f0.type = some (.int .i64)) (h1 : P.underlying f1.type = some (.int .i64))
    (hone : oneCellFields P #[f0, f1] = true) (hC : P.cellsOf t = 2) (h : DataW.trod enc P w base spare held n t c = some y) : ∃ s : St, c = [.int .i64 s.m, .int .i64 s.c] ∧ (Lit.int .i64 s.m).wf = true ∧ (Lit.int .i64 s.c).wf = true := by
  obtain ⟨y0, y1, n', _, hl, t0, t1⟩ := trod_struct2 hs h
  obtain ⟨o0, k0⟩ := hone_of hone 0 f0 rfl
  obtain ⟨o1, k1⟩ := hone_of hone 1 f1 rfl
  rw [hC] at hl
  match c, hl with
  | [c0, c1], _ =>
    obtain ⟨m, e0, _, w0⟩ := DataW.trod_int h0 t0
    obtain ⟨k, e1, _, w1⟩ := DataW.trod_int h1 t1
    simp [o0, k0] at e0
    simp [o1, k1] at e1
    subst e0 e1
    exact ⟨⟨m, k⟩, rfl, w0, w1⟩
theorem cS_flat (l : List St) : l.flatMap (fun s => [.int .i64 s.m, .int .i64 s.c]) = cS l := by
  induction l with
  | nil => rfl
  | cons a l ih => rw [List.flatMap_cons, ih]; rfl
theorem st_wf {s : St} (h0 : (Lit.int .i64 s.m).wf = true) (h1 : (Lit.int .i64 s.c).wf = true) : s.wf := by
  have a := bounds_i64 h0
  have b := bounds_i64 h1
  exact ⟨a.1, a.2, b.1, b.2⟩
/-- A slice of stamps. -/
theorem open_sts {t e : TypeId} {f0 f1 : Field} {fuel : Nat} {cs : List Value} {x : DataW H × List MemPlace} (ht : P.underlying t = some (.slice e)) (hs : P.underlying e = some (.struct #[f0, f1])) (h0 : P.underlying f0.type = some (.int .i64)) (h1 : P.underlying f1.type = some (.int .i64))
    (hone : oneCellFields P #[f0, f1] = true) (hC : P.cellsOf e = 2) (h : DataW.trod enc P w base spare held fuel t cs = some x) :
    ∃ (A : Option Addr) (c : Nat) (ls : List St), cs = [.slice A ls.length c] ∧ Rd w 2 A ls.length (cS ls) ∧ ls.length ≤ c ∧ c ≤ maxLen ∧ ∀ s ∈ ls, s.wf := by
  obtain ⟨A, c, ls, h2, h3, h4, h5, h6⟩ := open_list (fun s : St => [.int .i64 s.m, .int .i64 s.c]) (fun _ s => s.wf) ht hC (by omega)
    (fun n c y hy => by
      obtain ⟨s, rfl, w0, w1⟩ := trod_st hs h0 h1 hone hC hy
      exact ⟨s, rfl, rfl, st_wf w0 w1⟩) h
  rw [cS_flat] at h3
  exact ⟨A, c, ls, h2, h3, h4, h5, fun s hs => (h6 s hs).2⟩
end
end Go.Proofs.Ytdfkednggjelcaa
namespace Go.Proofs.Ytdfkednggjelcaa
open Go.Joins Go.ChangeShapes Go.WideShapes Go.ChangeAt Go.RowKit Go.Deep

section
variable {H : Type} {enc : TypeId × Value → H} {P : Program} {w : World} {base : Nat} {spare : Nat → Bool} {held : Bool}

/-- It weighs no more than is within reach. -/
def Light (P : Program) (t : TypeId) (d : DataW H) : Prop := ∀ x ∈ d.weights P t, x ≤ 140737488351232

theorem light_all {e : TypeId} : ∀ {l : List (DataW H)}, (∀ x ∈ DataW.weightsAll P e l, x ≤ 140737488351232) → ∀ d ∈ l, Light P e d
  | [], _, d, hd => by simp at hd
  | a :: l, h, d, hd => by
    simp only [DataW.weightsAll, List.mem_append] at h
    rcases List.mem_cons.1 hd with rfl | hd
    · exact fun x hx => h x (.inl hx)
    · exact light_all (fun x hx => h x (.inr hx)) d hd
theorem light_each {ts : List TypeId} {ds : List (DataW H)} (h : ∀ x ∈ DataW.weightsEach P ts ds, x ≤ 140737488351232) {j : Nat} {t : TypeId} {d : DataW H} (ht : ts[j]? = some t) (hd : ds[j]? = some d) : Light P t d :=
  fun x hx => h x (DataW.weights_mem_each ht hd x hx)
theorem light_of {ts : List TypeId} {ds : List (DataW H)} (h : (DataW.weightsEach P ts ds).all (· ≤ reachBytes) = true) {j : Nat} {t : TypeId} {d : DataW H} (ht : ts[j]? = some t) (hd : ds[j]? = some d) : Light P t d :=
  light_each (fun x hx => of_decide_eq_true (List.all_eq_true.1 h x hx)) ht hd

/-- What reads as this type, and is light, is cells that 'f' gives. -/
def Op (enc : TypeId × Value → H) (P : Program) (w : World) (base : Nat) (spare : Nat → Bool) (held : Bool) (t : TypeId) {α : Type} (f : α → List Value) (Q : α → Prop) : Prop :=
  ∀ (n : Nat) (c : List Value) (y : DataW H × List MemPlace), DataW.trod enc P w base spare held n t c = some y → Light P t y.1 → ∃ a : α, c = f a ∧ Q a

theorem Op.int {t : TypeId} {k : IntKind} (h : P.underlying t = some (.int k)) : Op enc P w base spare held t (fun z : Int => [.int k z]) (fun z => (Lit.int k z).wf = true) := fun n c y hy _ => by
  obtain ⟨m, e, _, hw⟩ := DataW.trod_int h hy
  exact ⟨m, e, hw⟩
theorem Op.bool {t : TypeId} (h : P.underlying t = some .bool) : Op enc P w base spare held t (fun b : Bool => [.bool b]) (fun _ => True) := fun n c y hy _ => by
  obtain ⟨m, e, _⟩ := DataW.trod_bool h hy
  exact ⟨m, e, trivial⟩
theorem Op.str {t : TypeId} (h : P.underlying t = some .string) : Op enc P w base spare held t (fun l : List UInt8 => [.string ⟨l.toArray⟩]) (fun l => l.length ≤ 140737488351232) := fun n c y hy hl => by
  obtain ⟨s, e, rfl, _⟩ := DataW.trod_string h hy
  refine ⟨s.data.toList, by rw [e], hl _ ?_⟩
  simp [DataW.weights]
theorem Op.mono {t : TypeId} {α : Type} {f : α → List Value} {Q Q' : α → Prop} (h : Op enc P w base spare held t f Q) (hq : ∀ a, Q a → Q' a) : Op enc P w base spare held t f Q' := fun n c y hy hl => by
  obtain ⟨a, e, h1⟩ := h n c y hy hl
  exact ⟨a, e, hq a h1⟩

/-- A slice: where it lies, its capacity, its elements. -/
structure Sl (α : Type) where
  A : Option Addr
  c : Nat
  ls : List α

theorem slice_light {t e : TypeId} {fuel : Nat} {cs : List Value} {x : DataW H × List MemPlace} (ht : P.underlying t = some (.slice e)) (h : DataW.trod enc P w base spare held fuel t cs = some x) (hl : Light P t x.1) :
    cs = [.slice none 0 0] ∨ ∃ (a : Addr) (len cap n : Nat) (D : Nat → DataW H) (Pl : Nat → List MemPlace), cs = [.slice (some a) len cap] ∧ len ≤ cap ∧ cap ≤ maxLen ∧ len * P.bytesOf e ≤ 140737488351232 ∧
      ∀ i, i < len → ∃ cs', w.cells? base (a.add (i * P.cellsOf e)) (P.cellsOf e) = some cs' ∧ DataW.trod enc P w base spare held n e cs' = some (D i, Pl i) ∧ Light P e (D i) := by
  rcases Go.Deep.open_slice ht h with ⟨h0, _⟩ | ⟨a, len, cap, m, n, D, Pl, rfl, _, h1, hm, hmm, rfl, hi⟩
  · exact .inl h0
  · have hml : len ≤ m := by rw [hmm]; split <;> omega
    have hw : ∀ x ∈ ((((List.range len).map D).length + ((List.range (m - len)).map fun j => D (len + j)).length) * P.bytesOf e) :: (DataW.weightsAll P e ((List.range len).map D) ++ DataW.weightsAll P e ((List.range (m - len)).map fun j => D (len + j))), x ≤ 140737488351232 := by
      intro x hx
      refine hl x ?_
      show x ∈ DataW.weights P t (DataW.slice ((List.range len).map D) ((List.range (m - len)).map fun j => D (len + j)))
      rw [DataW.weights, ht]
      exact hx
    refine .inr ⟨a, len, cap, n, D, Pl, rfl, h1, hm, ?_, fun i hil => ?_⟩
    · have h2 := hw _ (List.mem_cons_self)
      simp only [List.length_map, List.length_range] at h2
      exact Nat.le_trans (Nat.mul_le_mul_right _ (by omega)) h2
    · obtain ⟨cs', h3, h4⟩ := hi i (by omega)
      refine ⟨cs', h3, h4, ?_⟩
      exact light_all (fun x hx => hw x (List.mem_cons_of_mem _ (List.mem_append_left _ hx))) (D i) (List.mem_map.2 ⟨i, List.mem_range.2 hil, rfl⟩)

theorem Op.slice {α : Type} {f : α → List Value} {Q : α → Prop} {t e : TypeId} {size bytes : Nat} (ht : P.underlying t = some (.slice e)) (hC : P.cellsOf e = size) (hB : P.bytesOf e = bytes) (hsz : 0 < size) (hlen : ∀ a, (f a).length = size) (he : Op enc P w base spare held e f Q) :
    Op enc P w base spare held t (fun r : Sl α => [.slice r.A r.ls.length r.c]) (fun r => Rd w size r.A r.ls.length (r.ls.flatMap f) ∧ r.ls.length ≤ r.c ∧ r.c ≤ maxLen ∧ r.ls.length * bytes ≤ 140737488351232 ∧ ∀ a ∈ r.ls, Q a) := fun n c y hy hl => by
  rcases slice_light ht hy hl with rfl | ⟨a, len, cap, n', D, Pl, rfl, h1, hm, hreach, hi⟩
  · exact ⟨⟨none, 0, []⟩, rfl, Rd.nil _ _ _, Nat.le_refl _, Nat.zero_le _, by simp, by simp⟩
  · have key : ∀ i, i < len → ∃ r : α, (∀ j u, (f r)[j]? = some u → w.cell? (a.add (i * size + j)) = some u) ∧ Q r := by
      intro i hil
      obtain ⟨cs', hc, htr, hlt⟩ := hi i hil
      rw [hC] at hc
      obtain ⟨r, rfl, h2⟩ := he _ _ _ htr hlt
      obtain ⟨_, hcl, hat⟩ := World.cells?_some hc
      refine ⟨r, fun j u hu => ?_, h2⟩
      have hj : j < size := by
        have := (List.getElem?_eq_some_iff.1 hu).1
        rw [hlen] at this
        exact this
      have h0 := hat j hj
      rw [add_add] at h0
      rw [h0, hu]
    have build : ∀ k, k ≤ len → ∃ ls : List α, ls.length = k ∧ (ls.flatMap f).length = k * size ∧ (∀ j u, (ls.flatMap f)[j]? = some u → w.cell? (a.add j) = some u) ∧ ∀ r ∈ ls, Q r := by
      intro k
      induction k with
      | zero => intro _; exact ⟨[], rfl, by simp, by simp, by simp⟩
      | succ k ih =>
        intro hk
        obtain ⟨ls, h1, hfl, h2, h3⟩ := ih (by omega)
        obtain ⟨r, h4, h6⟩ := key k (by omega)
        refine ⟨ls ++ [r], by simp [h1], by simp [List.flatMap_append, hfl, hlen, Nat.succ_mul], ?_, ?_⟩
        · intro j q hq
          rw [List.flatMap_append] at hq
          by_cases hj : j < (ls.flatMap f).length
          · rw [List.getElem?_append_left hj] at hq; exact h2 j q hq
          · rw [List.getElem?_append_right (by omega)] at hq
            simp only [List.flatMap_cons, List.flatMap_nil, List.append_nil] at hq
            have := h4 _ _ hq
            rw [hfl, show k * size + (j - k * size) = j by omega] at this
            exact this
        · intro q hq
          rcases List.mem_append.1 hq with hq | hq
          · exact h3 q hq
          · obtain rfl := List.mem_singleton.1 hq
            exact h6
    obtain ⟨ls, rfl, hfl, h2, h3⟩ := build len (Nat.le_refl _)
    refine ⟨⟨some a, cap, ls⟩, rfl, ⟨hfl, fun hn => ⟨a, rfl, ?_, h2⟩⟩, h1, hm, by rw [← hB]; exact hreach, h3⟩
    have hpos : 0 < (ls.flatMap f).length := by rw [hfl]; exact Nat.mul_pos hn hsz
    have := World.block_lt_of_cell? _ _ (h2 0 _ (List.getElem?_eq_getElem hpos))
    rwa [add_block] at this
theorem flat_u8 (zs : List Int) : zs.flatMap (fun z => [Value.int .u8 z]) = zs.map (Value.int .u8) := by
  induction zs with
  | nil => rfl
  | cons a l ih => rw [List.flatMap_cons, ih]; rfl
theorem Op.bytes {t e : TypeId} (ht : P.underlying t = some (.slice e)) (he : P.underlying e = some (.int .u8)) (hC : P.cellsOf e = 1) (hB : P.bytesOf e = 1) :
    Op enc P w base spare held t (fun r : SlB => [r.val]) (fun r => RdB w r ∧ r.bs.length ≤ r.c ∧ r.c ≤ maxLen ∧ r.bs.length ≤ 140737488351232) := fun n c y hy hl => by
  obtain ⟨⟨A, cp, zs⟩, rfl, hr, h1, h2, h3, hw⟩ := Op.slice ht hC hB (by omega) (fun _ => rfl) (Op.int he) n c y hy hl
  simp only at hr h1 h2 h3 hw
  have e1 : (toB zs).length = zs.length := by simp [toB]
  rw [flat_u8, ← cB_toB hw] at hr
  exact ⟨⟨A, cp, toB zs⟩, by simp [SlB.val, e1], by unfold RdB; simp only; rw [e1]; exact hr, by simp only; omega, h2, by simp only; omega⟩

theorem Op.fields {t : TypeId} {fs : Array Field} {n : Nat} {c : List Value} {y : DataW H × List MemPlace} (hs : P.underlying t = some (.struct fs)) (h : DataW.trod enc P w base spare held n t c = some y) (hl : Light P t y.1) :
    c.length = P.cellsOf t ∧ ∃ n', ∀ (i : Nat) (f : Field), fs[i]? = some f → ∃ y', DataW.trod enc P w base spare held n' f.type ((c.drop f.offset).take (P.cellsOf f.type)) = some y' ∧ Light P f.type y'.1 := by
  obtain ⟨xs, n', _, rfl, hlen, hxl, hf⟩ := DataW.trod_struct hs h
  refine ⟨hlen, n', fun i f hi => ?_⟩
  have hil := (Array.getElem?_eq_some_iff.1 hi).1
  obtain ⟨y', hy'⟩ : ∃ y', xs[i]? = some y' := ⟨xs[i]'(by omega), List.getElem?_eq_getElem (by omega)⟩
  refine ⟨y', (hf i f hi).trans hy', fun x hx => hl x ?_⟩
  show x ∈ DataW.weights P t (DataW.agg (xs.map (·.1)))
  rw [DataW.weights, hs]
  refine DataW.weights_mem_each (j := i) (t := f.type) (d := y'.1) ?_ ?_ x hx
  · rw [List.getElem?_map, ← Array.getElem?_toList] at *
    simp [hi]
  · simp [hy']

theorem Op.fields' {t : TypeId} {fs : Array Field} {n : Nat} {c : List Value} {y : DataW H × List MemPlace} (hs : P.underlying t = some (.struct fs)) (h : DataW.trod enc P w base spare held n t c = some y) (hl : Light P t y.1) :
    c.length = P.cellsOf t ∧ ∃ n', ∀ (i : Nat) (ty : TypeId) (off sz : Nat), (fs[i]?).map (fun f => (f.type, f.offset, P.cellsOf f.type)) = some (ty, off, sz) → ∃ y', DataW.trod enc P w base spare held n' ty ((c.drop off).take sz) = some y' ∧ Light P ty y'.1 := by
  obtain ⟨h1, n', hf⟩ := Op.fields hs h hl
  refine ⟨h1, n', fun i ty off sz he => ?_⟩
  cases hi : fs[i]? with
  | none => rw [hi] at he; simp at he
  | some f =>
    rw [hi] at he
    simp only [Option.map_some, Option.some.injEq, Prod.mk.injEq] at he
    obtain ⟨rfl, rfl, rfl⟩ := he
    exact hf i f hi

/-- A struct by value. -/
theorem open_op {α : Type} {f : α → List Value} {Q : α → Prop} {r : Reach} {b0 : Nat} {t : TypeId} {fs : Array Field} {v : Value} {d : DataW H} {p : List MemPlace} (hs : P.underlying t = some (.struct fs)) (hop : Op enc P w base spare held t f Q) (hl : Light P t d)
    (hv : Value.okWide P w r b0 t v) (h : DataW.Trod enc P w base spare held t v d p) : ∃ a, v = .agg (f a).toArray ∧ Q a := by
  obtain ⟨cs, rfl, hsz⟩ := okWide_struct hs hv
  obtain ⟨fuel, hf⟩ := h
  obtain ⟨a, e, hq⟩ := hop _ _ _ hf hl
  exact ⟨a, by rw [← e]; simp [Value.cells], hq⟩
/-- Anything else. -/
theorem open_op1 {α : Type} {f : α → Value} {Q : α → Prop} {t : TypeId} {v : Value} {d : DataW H} {p : List MemPlace} (hc : v.cells = #[v]) (hop : Op enc P w base spare held t (fun a => [f a]) Q) (hl : Light P t d) (h : DataW.Trod enc P w base spare held t v d p) : ∃ a, v = f a ∧ Q a := by
  obtain ⟨fuel, hf⟩ := h
  obtain ⟨a, e, hq⟩ := hop _ _ _ hf hl
  refine ⟨a, ?_, hq⟩
  rw [hc] at e
  simpa using e
end
end Go.Proofs.Ytdfkednggjelcaa
