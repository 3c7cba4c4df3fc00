/-
  How arguments are opened: bytes, rows of bytes, ints; as 'Rd' has them.
-/
import Derived.Test.YtmliclfepnebfaaBase
import Derived.ProofKit
import Derived.OpenShut
import Derived.Deep.Slices
namespace Go.Proofs.Ytmliclfepnebfaa
open Go.ChangeShapes Go.WideShapes Go.ChangeAt Go.RowKit Go.Deep

/-- The bytes that numbers are. -/
def toB (zs : List Int) : List UInt8 := zs.map fun z => UInt8.ofNat z.toNat
theorem cB_toB {zs : List Int} (h : ∀ z ∈ zs, (Lit.int .u8 z).wf = true) : cB (toB zs) = zs.map (Value.int .u8) := by
  unfold cB toB
  rw [List.map_map]
  refine List.map_congr_left fun z hz => ?_
  have hb := bounds_u8 (h z hz)
  simp only [Function.comp]
  congr 1
  rw [UInt8.toNat_ofNat']
  omega

section
variable {H : Type} {enc : TypeId × Value → H} {P : Program} {w : World} {base : Nat} {spare : Nat → Bool} {held : Bool}

/-- A slice of integers, whatever kind: its elements. -/
theorem open_rd {t e : TypeId} {k : IntKind} {fuel : Nat} {cs : List Value} {x : DataW H × List MemPlace} (ht : P.underlying t = some (.slice e)) (he : P.underlying e = some (.int k)) (hC : P.cellsOf e = 1)
    (h : DataW.trod enc P w base spare held fuel t cs = some x) :
    ∃ (A : Option Addr) (n c : Nat) (zs : List Int), cs = [.slice A n c] ∧ zs.length = n ∧ Rd w 1 A n (zs.map (Value.int k)) ∧ n ≤ c ∧ c ≤ maxLen ∧ ∀ z ∈ zs, (Lit.int k z).wf = true := by
  rcases open_ints ht he hC h with ⟨hcs, _⟩ | ⟨a, l, c, zs, hcs, _, hl, hm, hz, _, hcell, hwz⟩
  · exact ⟨none, 0, 0, [], hcs, rfl, Rd.nil _ _ _, Nat.le_refl _, Nat.zero_le _, by simp⟩
  · have hlz : l ≤ zs.length := by
      rw [hz]; split <;> omega
    refine ⟨some a, l, c, zs.take l, hcs, by simp; omega, ⟨by simp; omega, fun hn => ⟨a, rfl, ?_, ?_⟩⟩, hl, hm, fun z hm => hwz z (List.mem_of_mem_take hm)⟩
    · have := World.block_lt_of_cell? _ _ (hcell 0 (by omega))
      rwa [add_block] at this
    · intro j u hu
      have hj : j < l := by
        have := (List.getElem?_eq_some_iff.1 hu).1
        simp at this
        omega
      rw [hcell j (by omega)]
      rw [List.getElem?_map, List.getElem?_take_of_lt hj, List.getElem?_eq_getElem (by omega)] at hu
      simp at hu
      rw [← hu]
      simp [List.getD, show j < zs.length by omega]
theorem open_bytes {t e : TypeId} {fuel : Nat} {cs : List Value} {x : DataW H × List MemPlace} (ht : P.underlying t = some (.slice e)) (he : P.underlying e = some (.int .u8)) (hC : P.cellsOf e = 1)
    (h : DataW.trod enc P w base spare held fuel t cs = some x) :
    ∃ (A : Option Addr) (c : Nat) (bs : List UInt8), cs = [.slice A bs.length c] ∧ Rd w 1 A bs.length (cB bs) ∧ bs.length ≤ c ∧ c ≤ maxLen := by
  obtain ⟨A, n, c, zs, rfl, rfl, hr, h1, h2, hw⟩ := open_rd ht he hC h
  rw [← cB_toB hw] at hr
  have e1 : (toB zs).length = zs.length := by simp [toB]
  exact ⟨A, c, toB zs, by rw [e1], by rw [e1]; exact hr, by rw [e1]; exact h1, h2⟩
/-- Rows of bytes. -/
theorem open_rows {t e u : TypeId} {fuel : Nat} {cs : List Value} {x : DataW H × List MemPlace} (ht : P.underlying t = some (.slice e)) (he : P.underlying e = some (.slice u)) (hu : P.underlying u = some (.int .u8)) (hCe : P.cellsOf e = 1) (hC : P.cellsOf u = 1)
    (h : DataW.trod enc P w base spare held fuel t cs = some x) :
    ∃ (A : Option Addr) (c : Nat) (ls : List SlB), cs = [.slice A ls.length c] ∧ Rd w 1 A ls.length (cR ls) ∧ ls.length ≤ c ∧ c ≤ maxLen ∧ ∀ r ∈ ls, RdB w r ∧ r.bs.length ≤ r.c ∧ r.c ≤ maxLen := by
  rcases Go.Deep.open_slice ht h with ⟨rfl, _⟩ | ⟨a, len, cap, m, n, D, Pl, rfl, _, hl, hm, hmm, _, hi⟩
  · exact ⟨none, 0, [], rfl, Rd.nil _ _ _, Nat.le_refl _, Nat.zero_le _, by simp⟩
  · have hml : len ≤ m := by rw [hmm]; split <;> omega
    have key : ∀ i, i < len → ∃ r : SlB, w.cell? (a.add i) = some r.val ∧ RdB w r ∧ r.bs.length ≤ r.c ∧ r.c ≤ maxLen := by
      intro i hil
      obtain ⟨cs', hc, htr⟩ := hi i (by omega)
      rw [hCe, Nat.mul_one] at hc
      obtain ⟨A, c, bs, rfl, hr, h1, h2⟩ := open_bytes he hu hC htr
      obtain ⟨_, hcl, hat⟩ := World.cells?_some hc
      have h0 := hat 0 (by omega)
      rw [add_zero] at h0
      exact ⟨⟨A, c, bs⟩, by rw [h0]; rfl, hr, h1, h2⟩
    have build : ∀ k, k ≤ len → ∃ ls : List SlB, ls.length = k ∧ (∀ j r, ls[j]? = some r → w.cell? (a.add j) = some r.val) ∧ ∀ r ∈ ls, RdB w r ∧ r.bs.length ≤ r.c ∧ r.c ≤ maxLen := by
      intro k
      induction k with
      | zero => intro _; exact ⟨[], rfl, by simp, by simp⟩
      | succ k ih =>
        intro hk
        obtain ⟨ls, h1, h2, h3⟩ := ih (by omega)
        obtain ⟨r, h4, h5⟩ := key k (by omega)
        refine ⟨ls ++ [r], by simp [h1], ?_, ?_⟩
        · intro j q hq
          by_cases hj : j < ls.length
          · rw [List.getElem?_append_left hj] at hq; exact h2 j q hq
          · rw [List.getElem?_append_right (by omega)] at hq
            have hj0 : j - ls.length = 0 := by
              have := (List.getElem?_eq_some_iff.1 hq).1
              simp at this; omega
            rw [hj0] at hq
            simp at hq
            rw [← hq, show j = k by omega]
            exact h4
        · intro q hq
          rcases List.mem_append.1 hq with hq | hq
          · exact h3 q hq
          · obtain rfl := List.mem_singleton.1 hq
            exact h5
    obtain ⟨ls, rfl, h2, h3⟩ := build len (Nat.le_refl _)
    refine ⟨some a, cap, ls, rfl, ⟨by simp [cR_len], fun hn => ⟨a, rfl, ?_, ?_⟩⟩, hl, hm, h3⟩
    · have := World.block_lt_of_cell? _ _ (h2 0 _ (List.getElem?_eq_getElem hn))
      rwa [add_block] at this
    · intro j u hu
      simp only [cR, List.getElem?_map, Option.map_eq_some_iff] at hu
      obtain ⟨r, hr, rfl⟩ := hu
      exact h2 j r hr
end
end Go.Proofs.Ytmliclfepnebfaa
