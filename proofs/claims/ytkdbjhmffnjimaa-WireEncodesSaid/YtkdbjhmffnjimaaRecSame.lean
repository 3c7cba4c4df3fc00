
/-
  RecSame: whether two records are one.
-/
import Derived.Test.YtkdbjhmffnjimaaRecL
import Derived.Deep.RegionHeld3
namespace Go.Proofs.Ytkdbjhmffnjimaa
open Go.RowKit
set_option linter.unusedVariables false

theorem RcV.arr (x : RcV) : x.cells.toArray = #[.int .i64 x.r.o, .int .i64 x.r.q, .string ⟨x.r.key.toArray⟩, .int .i64 x.r.m, .int .i64 x.r.c, .int .i64 x.r.vo, .slice x.A x.r.val.length x.cp, .bool x.r.gone, .int .i64 x.r.ttl] := rfl

theorem refSame_to (w : World) (o q : Int) (key : List UInt8) (m c vo : Int) (A : Option Addr) (val : List UInt8) (cp : Nat) (gone : Bool) (ttl : Int)
    (o' q' : Int) (key' : List UInt8) (m' c' vo' : Int) (A' : Option Addr) (val' : List UInt8) (cp' : Nat) (gone' : Bool) (ttl' : Int) (s : Bool) (hs : sameR ⟨o, q, key, m, c, vo, val, gone, ttl⟩ ⟨o', q', key', m', c', vo', val', gone', ttl'⟩ = s) (hx : Rd w 1 A val.length (cB val)) (hy : Rd w 1 A' val'.length (cB val')) :
    Calls Try.prog 61 #[.agg #[.int .i64 o, .int .i64 q, .string ⟨key.toArray⟩, .int .i64 m, .int .i64 c, .int .i64 vo, .slice A val.length cp, .bool gone, .int .i64 ttl],
        .agg #[.int .i64 o', .int .i64 q', .string ⟨key'.toArray⟩, .int .i64 m', .int .i64 c', .int .i64 vo', .slice A' val'.length cp', .bool gone', .int .i64 ttl']] w fun e w' => e = .returned (.bool s) ∧ Chg [] w w' := by
  subst hs
  exact refSame_any w o q key m c vo A val cp gone ttl o' q' key' m' c' vo' A' val' cp' gone' ttl' hx hy

end Go.Proofs.Ytkdbjhmffnjimaa
