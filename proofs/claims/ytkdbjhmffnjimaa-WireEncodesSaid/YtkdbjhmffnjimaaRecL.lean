
/-
  Chapter 14's laws: their own small functions.
-/
import Derived.Test.YtkdbjhmffnjimaaRecS
import Derived.Test.YtkdbjhmffnjimaaRecE
namespace Go.Proofs.Ytkdbjhmffnjimaa
open Go.RowKit
set_option linter.unusedVariables false

/-- 'heavy' is told: where it says no, records are no more than is looked at. -/
def HeavyR (most : Nat) (ls : List RcV) (w : World) (e : Ending) (w' : World) : Prop := ∃ hv : Bool, e = .returned (.bool hv) ∧ (hv = false → 20 * ls.length + (ls.map fun x => x.r.key.length + x.r.val.length).sum ≤ most) ∧ Chg [] w w'

theorem enc_known : encR ⟨1, 2, [107], 3, 4, 1, [118], false, 0⟩ = [1, 2, 1, 107, 3, 4, 0, 0, 1, 118] := by decide +kernel
end Go.Proofs.Ytkdbjhmffnjimaa
