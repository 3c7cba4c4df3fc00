
/-
  A copy of records of the call's own, whose cells are set.
-/
import Derived.Test.YtdfkednggjelcaaRecS
namespace Go.Proofs.Ytdfkednggjelcaa
open Go.RowKit

theorem add_off (a : Addr) (n : Nat) : (a.add n).off = a.off + n := by unfold Addr.add; split <;> simp_all
theorem add_inj {a : Addr} {i j : Nat} (h : a.add i = a.add j) : i = j := by
  have := congrArg Addr.off h
  rw [add_off, add_off] at this
  omega
theorem cRc_set : ∀ {l : List RcV} {k : Nat} (hk : k < l.length) {j : Nat} (_ : j < 9) {u : Value} {x : RcV} (_ : x.cells = (l[k].cells).set j u), (cRc l).set (k * 9 + j) u = cRc (l.set k x)
  | a :: l, 0, _, j, hj, u, x, hx => by
    rw [cRc_cons, Nat.zero_mul, Nat.zero_add, List.set_append_left _ _ (by exact hj), List.set_cons_zero, cRc_cons, hx]; rfl
  | a :: l, k + 1, hk, j, hj, u, x, hx => by
    rw [cRc_cons, List.set_append_right _ _ (by show 9 ≤ _; omega)]
    have e : (k + 1) * 9 + j - a.cells.length = k * 9 + j := by show (k + 1) * 9 + j - 9 = _; omega
    rw [e, cRc_set (by simpa using hk) hj (x := x) (by simpa using hx), List.set_cons_succ, cRc_cons]

/-- Records in a block of the call's own. -/
structure Mine (w0 w : World) (ad : Addr) (l : List RcV) : Prop where
  rd : Rd w 9 (some ad) l.length (cRc l)
  free : ∀ j, w.frozen? (ad.add j) = false
  new : w0.heap.size ≤ ad.block
  lt : ad.block < w.heap.size
  plain : ad.spot = none
theorem Mine.of_own {w0 w : World} {base : Nat} {e : TypeId} {A : Option Addr} {n c : Nat} {l : List RcV} (h : w.ownsRow base e 9 (.slice A n c) n (cRc l)) (hb : w0.heap.size ≤ base) (hl : l.length = n) (hn : 0 < n) : ∃ ad, A = some ad ∧ Mine w0 w ad l := by
  subst hl
  rcases h.2 with ⟨_, h1⟩ | ⟨g, cap, cur, h1, h2, h3, h4, h5, h6, h7⟩
  · omega
  · have hA : A = some ⟨g, 0, none⟩ := by injection h1
    refine ⟨_, hA, hA ▸ Rd.of_own h, fun j => ?_, Nat.le_trans hb h2, At.lt (t := e) h3, rfl⟩
    have e' : (⟨g, 0, none⟩ : Addr).add j = ⟨g, j, none⟩ := by unfold Addr.add; split <;> simp_all
    rw [e']
    exact At.free (t := e) h3 j
theorem Mine.keep {w0 w w' : World} {ad : Addr} {l : List RcV} (h : Mine w0 w ad l) (hc : Chg [] w w') : Mine w0 w' ad l :=
  ⟨h.rd.keep0 hc, fun j => (hc.frozen (by rw [add_block]; exact h.lt) (by simp)).trans (h.free j), h.new, Nat.lt_of_lt_of_le h.lt hc.size, h.plain⟩
theorem Mine.set {w0 w : World} {ad p : Addr} {l : List RcV} (h : Mine w0 w ad l) {k : Nat} (hk : k < l.length) {j : Nat} (hj : j < 9) (hp : ad.add (k * 9 + j) = p) {u : Value} {x : RcV} (hx : x.cells = (l[k].cells).set j u) : Mine w0 (w.setCell p u) ad (l.set k x) := by
  subst hp
  refine ⟨?_, fun i => (World.frozen?_setCell _ _ _ _).trans (h.free i), h.new, by simpa [World.setCell] using h.lt, h.plain⟩
  refine ⟨by rw [cRc_len], fun hn => ⟨ad, rfl, by simpa [World.setCell] using h.lt, fun i z hz => ?_⟩⟩
  obtain ⟨ad', ha, hb, hc⟩ := h.rd.at_ (by simpa using hn)
  obtain rfl : ad = ad' := by injection ha
  rw [← cRc_set hk hj hx] at hz
  by_cases hi : i = k * 9 + j
  · subst hi
    have hl : k * 9 + j < (cRc l).length := by rw [cRc_len]; omega
    rw [List.getElem?_set_self hl] at hz
    rw [World.cell?_setCell_same _ _ _ (hc _ _ (List.getElem?_eq_getElem hl)), hz]
  · rw [List.getElem?_set_ne (Ne.symm hi)] at hz
    rw [World.cell?_setCell_other _ _ _ _ (fun he => hi (add_inj he).symm)]
    exact hc i z hz
/-- Once more: the same record. -/
theorem Mine.again {w0 w : World} {ad p : Addr} {l : List RcV} {k : Nat} {y : RcV} (h : Mine w0 w ad (l.set k y)) (hk : k < l.length) {j : Nat} (hj : j < 9) (hp : ad.add (k * 9 + j) = p) {u : Value} {x : RcV} (hx : x.cells = (y.cells).set j u) : Mine w0 (w.setCell p u) ad (l.set k x) := by
  have h1 := h.set (k := k) (by simpa using hk) hj hp (u := u) (x := x) (by rw [List.getElem_set_self]; exact hx)
  rwa [List.set_set] at h1
/-- The k-th one's cells; they may be written. -/
theorem Mine.at_ {w0 w : World} {ad : Addr} {l : List RcV} (h : Mine w0 w ad l) {k : Nat} (hk : k < l.length) :
    ∃ pb po, ad.add (k * 9) = ⟨pb, po, none⟩ ∧ (∀ j, ad.add (k * 9 + j) = ⟨pb, po + j, none⟩) ∧ w0.heap.size ≤ pb ∧ pb < w.heap.size ∧ w.cell? ⟨pb, po, none⟩ = some (.int .i64 l[k].r.o) ∧ (∀ j u, (l[k].cells)[j]? = some u → w.cell? ⟨pb, po + j, none⟩ = some u) ∧ w.frozen? ⟨pb, po, none⟩ = false ∧ ∀ j, w.frozen? ⟨pb, po + j, none⟩ = false := by
  have hs : ∀ n, ad.add n = ⟨ad.block, ad.off + n, none⟩ := fun n => by
    have h1 := h.plain
    obtain ⟨b, o, s⟩ := ad
    simp only at h1
    subst h1
    unfold Addr.add; split <;> simp_all
  obtain ⟨ad', ha, hb, hc⟩ := h.rd.at_ (by omega)
  obtain rfl : ad = ad' := by injection ha
  have hcell : ∀ j u, (l[k].cells)[j]? = some u → w.cell? ⟨ad.block, ad.off + k * 9 + j, none⟩ = some u := fun j u hu => by
    have hj9 : j < 9 := (List.getElem?_eq_some_iff.1 hu).1
    have := hc (k * 9 + j) u (by rw [cRc_get hk hj9]; exact hu)
    rwa [hs, ← Nat.add_assoc] at this
  have hfree : ∀ j, w.frozen? ⟨ad.block, ad.off + k * 9 + j, none⟩ = false := fun j => by
    have := h.free (k * 9 + j)
    rwa [hs, ← Nat.add_assoc] at this
  exact ⟨ad.block, ad.off + k * 9, hs _, fun j => by rw [hs, Nat.add_assoc], h.new, h.lt, hcell 0 _ rfl, hcell, hfree 0, hfree⟩
end Go.Proofs.Ytdfkednggjelcaa
