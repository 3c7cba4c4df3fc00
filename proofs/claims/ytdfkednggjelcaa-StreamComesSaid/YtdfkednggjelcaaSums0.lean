
/-
  octet's Sum, its answer under a name.
-/
import Derived.Test.YtdfkednggjelcaaOctS
namespace Go.Proofs.Ytdfkednggjelcaa
open Go.RowKit
theorem sum_to (w : World) (A : Option Addr) (n c : Nat) (ls : List SlB) (L : List UInt8) (hL : Hid ((ls.map SlB.bs).flatten = L)) (hn : ls.length = n) (hr : Rd w 1 A ls.length (cR ls)) (hrs : ∀ r ∈ ls, RdB w r ∧ r.bs.length ≤ 1099511627776) (hls : ls.length ≤ 140737488355328) :
    Calls Try.prog 78 #[.slice A n c] w fun e w' => e = .returned (.int .u32 (crc L : Nat)) ∧ w = w' := by
  have h := sum_any w A n c ls hn hr hrs hls
  rw [hL.out] at h
  exact h
end Go.Proofs.Ytdfkednggjelcaa
