
/-
  string(b), bytes.Equal.
-/
import Derived.Test.YtmliclfepnebfaaRows
import Derived.Test.YtmliclfepnebfaaBase
namespace Go.Proofs.Ytmliclfepnebfaa
open Go.RowKit
theorem ret_bool {a b : Bool} (h : a = b) : Ending.returned (.bool a) = .returned (.bool b) := by rw [h]
/-! ### string(b) -/

theorem run_str {P : Program} (w : World) (src dst e : TypeId) (hs : P.underlying src = some (.slice e)) (he : P.underlying e = some (.int .u8)) (hd : P.underlying dst = some .string)
    (A : Option Addr) (n c : Nat) (bs : List UInt8) (hn : bs.length = n) (hr : Rd w 1 A bs.length (cB bs)) : (convert src dst (.slice A n c)).run P w = .ok (.string ⟨bs.toArray⟩) w := by
  subst hn
  rcases Nat.eq_zero_or_pos bs.length with h0 | h0
  · obtain rfl : bs = [] := List.eq_nil_of_length_eq_zero h0
    cases A with
    | none => exact run_convert_bytes_nil w src e hs he _ c dst hd
    | some ad => exact run_convert_bytes_back w src dst e ad c [] hs he hd (by simp)
  · obtain ⟨ad, rfl, _, hc⟩ := hr.at_ h0
    exact run_convert_bytes_back w src dst e ad c bs hs he hd (fun j hj => hc j _ (cB_get hj))
end Go.Proofs.Ytmliclfepnebfaa
