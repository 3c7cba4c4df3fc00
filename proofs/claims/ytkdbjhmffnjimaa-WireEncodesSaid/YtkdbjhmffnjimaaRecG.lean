
/-
  The reference's Encode of a record, both ways at once.
-/
import Derived.Test.YtkdbjhmffnjimaaRecF
import Derived.Test.YtkdbjhmffnjimaaRecF2
namespace Go.Proofs.Ytkdbjhmffnjimaa
open Go.RowKit
theorem refEncR_yes (w : World) (o q : Int) (key : List UInt8) (m c vo : Int) (A : Option Addr) (val : List UInt8) (cp : Nat) (gone : Bool) (ttl : Int) (h : isR ⟨o, q, key, m, c, vo, val, gone, ttl⟩ = true) (hr : Rd w 1 A val.length (cB val)) :
    Calls Try.prog 57 #[.agg #[.int .i64 o, .int .i64 q, .string ⟨key.toArray⟩, .int .i64 m, .int .i64 c, .int .i64 vo, .slice A val.length cp, .bool gone, .int .i64 ttl]] w fun e w' =>
      ∃ A' c', e = .returned (.tuple #[.slice A' (encR ⟨o, q, key, m, c, vo, val, gone, ttl⟩).length c', .int .i64 0]) ∧
        w'.ownsRow w.heap.size 5 1 (.slice A' (encR ⟨o, q, key, m, c, vo, val, gone, ttl⟩).length c') (encR ⟨o, q, key, m, c, vo, val, gone, ttl⟩).length (cB (encR ⟨o, q, key, m, c, vo, val, gone, ttl⟩)) ∧ Chg [] w w' := by
  cases gone
  · exact refEncR_yes0 w o q key m c vo A val cp ttl h hr
  · exact refEncR_yes1 w o q key m c vo A val cp ttl h hr
end Go.Proofs.Ytkdbjhmffnjimaa
