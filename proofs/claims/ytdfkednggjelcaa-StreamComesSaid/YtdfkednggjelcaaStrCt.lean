
/-
  StreamComes: a message is decoded.
-/
import Derived.Test.YtdfkednggjelcaaStrC1
import Derived.Test.YtdfkednggjelcaaWirG
namespace Go.Proofs.Ytdfkednggjelcaa
open Go.RowKit
set_option linter.unusedVariables false
theorem dec_msg (w' : World) (xA : Option Addr) (xp : Nat) (xd : List UInt8) (x : Wd) (hd : decW xd = (x, 0)) (hr : Rd w' 1 xA xd.length (cB xd)) (hc : xd.length ≤ xp) (hl : xd.length ≤ 1099511627776) :
    Calls Try.prog 25 #[.slice xA xd.length xp] w' (DecWPost w' (x, 0)) := by
  have h := refDecW_any w' xA xd.length xp xd rfl hr hc hl
  rw [hd] at h
  exact h
end Go.Proofs.Ytdfkednggjelcaa
