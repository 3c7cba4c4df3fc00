
/-
  string(b), bytes.Equal.
-/
import Derived.Test.YtkdbjhmffnjimaaRows
import Derived.Test.YtkdbjhmffnjimaaBase
namespace Go.Proofs.Ytkdbjhmffnjimaa
open Go.RowKit
theorem ret_bool {a b : Bool} (h : a = b) : Ending.returned (.bool a) = .returned (.bool b) := by rw [h]
/-! ### string(b) -/

theorem run_str {P : Program} (w : World) (src dst e : TypeId) (hs : P.underlying src = some (.slice e)) (he : P.underlying e = some (.int .u8)) (hd : P.underlying dst = some .string)
    (A : Option Addr) (n c : Nat) (bs : List UInt8) (hn : bs.length = n) (hr : Rd w 1 A bs.length (cB bs)) : (convert src dst (.slice A n c)).run P w = .ok (.string ⟨bs.toArray⟩) w := by
  subst hn
  rcases Nat.eq_zero_or_pos bs.length with h0 | h0
  · obtain rfl : bs = [] := List.eq_nil_of_length_eq_zero h0
    cases A with
    | none => exact run_convert_bytes_nil w src e hs he _ c dst hd
    | some ad => exact run_convert_bytes_back w src dst e ad c [] hs he hd (by simp)
  · obtain ⟨ad, rfl, _, hc⟩ := hr.at_ h0
    exact run_convert_bytes_back w src dst e ad c bs hs he hd (fun j hj => hc j _ (cB_get hj))
set_option maxHeartbeats 400000 in
theorem equal_any (w : World) (A B : Option Addr) (n m c d : Nat) (xs ys : List UInt8) (hn : xs.length = n) (hm : ys.length = m) (hx : Rd w 1 A xs.length (cB xs)) (hy : Rd w 1 B ys.length (cB ys)) :
    Calls Try.prog 39 #[.slice A n c, .slice B m d] w fun e w' => e = .returned (.bool (decide (xs = ys))) ∧ w = w' := by
  have k1 := run_str (P := Try.prog) w 28 9 5 Try.underlying28 Try.underlying5 Try.underlying9 A n c xs hn hx
  have k2 := run_str (P := Try.prog) w 28 9 5 Try.underlying28 Try.underlying5 Try.underlying9 B m d ys hm hy
  clear hn hm
  go_enter Try.func39, Try.ntmps39
  go_wp2_with (fail)
  go_ret
  exact ⟨ret_bool (by first | rfl | (by_cases h : xs = ys <;> simp [h])), rfl⟩

end Go.Proofs.Ytkdbjhmffnjimaa
