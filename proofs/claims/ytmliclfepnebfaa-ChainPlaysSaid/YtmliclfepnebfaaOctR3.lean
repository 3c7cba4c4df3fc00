
/-
  octet's Reader: Nums; what a nil Reader does.
-/
import Derived.Test.YtmliclfepnebfaaOctR2
namespace Go.Proofs.Ytmliclfepnebfaa
open Go.RowKit

/-- Behind k numbers: what is left, whether it erred. -/
def numsSt (L : List UInt8) (b : Bool) : Nat → List UInt8 × Bool
  | 0 => (L, b)
  | k + 1 => (takeNum (numsSt L b k).1 (numsSt L b k).2).2
/-- The number of that place. -/
def numAt (L : List UInt8) (b : Bool) (k : Nat) : Nat := (takeNum (numsSt L b k).1 (numsSt L b k).2).1
theorem numsSt_len (L : List UInt8) (b : Bool) (k : Nat) : (numsSt L b k).1.length ≤ L.length := by
  induction k with
  | zero => exact Nat.le_refl _
  | succ k ih => exact Nat.le_trans (takeNum_len _ _) ih

/-- The cells of pointers. -/
def cP (l : List (Option Addr)) : List Value := l.map Value.pointer
theorem cP_get {l : List (Option Addr)} {k : Nat} (h : k < l.length) : (cP l)[k]? = some (.pointer l[k]) := by simp [cP, h]

end Go.Proofs.Ytmliclfepnebfaa
