
/-
  bytes.Join without a separator, octet's Join: all rows, one behind the other, in memory of its own.
-/
import Derived.Test.YtmliclfepnebfaaOctW
import Derived.Test.YtmliclfepnebfaaSep
import Derived.Lib.SlBuf
import Derived.Lib.MakeNoZero
import Derived.Laws.Externs
namespace Go.Proofs.Ytmliclfepnebfaa
open Go.RowKit

theorem rd_holds {w : World} {A : Option Addr} {c : Nat} {l : List UInt8} (h : Rd w 1 A l.length (cB l)) : Lib.HoldsBytes w (.slice A l.length c) l := by
  refine ⟨A, c, rfl, fun hA => ?_, fun a ha i x hx => ?_⟩
  · rcases Nat.eq_zero_or_pos l.length with h0 | h0
    · exact List.eq_nil_of_length_eq_zero h0
    · obtain ⟨_, h1, _⟩ := h.at_ h0
      rw [hA] at h1; cases h1
  · have hi := (List.getElem?_eq_some_iff.1 hx).1
    obtain ⟨a', h1, _, h2⟩ := h.at_ (by omega)
    rw [ha] at h1
    injection h1 with h1
    subst h1
    exact h2 i _ (by simp [cB, hx])
/-- A full block of bytes of its own: what may be written. -/
def Full (w : World) (A : Option Addr) (n c : Nat) : Prop := c = n ∧ (0 < n → ∃ g, A = some ⟨g, 0, none⟩ ∧ ∀ j, j < n → w.frozen? ⟨g, j, none⟩ = false)
/-- What Join hands back: its bytes read as L, in new blocks; full, or a row of its own. -/
def JoinPost (w : World) (L : List UInt8) (e : Ending) (w' : World) : Prop :=
  ∃ A c, e = .returned (.slice A L.length c) ∧ Rd w' 1 A L.length (cB L) ∧ L.length ≤ c ∧ (0 < L.length → ∀ x ∈ blk A, w.heap.size ≤ x ∧ x < w'.heap.size) ∧ Chg [] w w' ∧ (Full w' A L.length c ∨ w'.ownsRow w.heap.size 5 1 (.slice A L.length c) L.length (cB L))

end Go.Proofs.Ytmliclfepnebfaa
