
/-
  rec.Is, rec.Same; the reference's Is, Same.
-/
import Derived.Test.YtmliclfepnebfaaRecP
import Derived.Test.YtmliclfepnebfaaPackW
import Derived.Test.YtmliclfepnebfaaEqual
import Derived.Outline
import Derived.BigGuardPart
namespace Go.Proofs.Ytmliclfepnebfaa
open Go.RowKit

/-- A record in memory: what it says, and where its value lies. -/
structure RcV where
  r : Rc
  A : Option Addr
  cp : Nat
/-- A record's cells. -/
def RcV.cells (x : RcV) : List Value := [.int .i64 x.r.o, .int .i64 x.r.q, .string ⟨x.r.key.toArray⟩, .int .i64 x.r.m, .int .i64 x.r.c, .int .i64 x.r.vo, .slice x.A x.r.val.length x.cp, .bool x.r.gone, .int .i64 x.r.ttl]
/-- Its value reads. -/
def RcV.rd (w : World) (x : RcV) : Prop := Rd w 1 x.A x.r.val.length (cB x.r.val)

theorem isR_no {o q : Int} {key : List UInt8} {m c vo : Int} {val : List UInt8} {gone : Bool} {ttl : Int}
    (h : 0 ≤ o → o < 5 → 1 ≤ q → q ≤ 1099511627776 → 1 ≤ (key.length : Int) → (key.length : Int) ≤ 64 → vo = o → (val.length : Int) ≤ 1024 → 0 ≤ ttl → ttl ≤ 281474976710655 → (gone = true → (val.length : Int) = 0 ∧ ttl = 0) → False) :
    false = isR ⟨o, q, key, m, c, vo, val, gone, ttl⟩ := by
  refine (isR_not.2 fun k => ?_).symm
  obtain ⟨_, h1, h2, h3, h4, h5, h6, h7, h8, h9, h10, h11⟩ := k
  exact h h1 h2 h3 h4 (Int.ofNat_le.2 h5) (Int.ofNat_le.2 h6) h7 (Int.ofNat_le.2 h8) h9 h10 (fun g => ⟨by have : val.length = 0 := (h11 g).1; omega, (h11 g).2⟩)
theorem isR_yes {o q : Int} {key : List UInt8} {m c vo : Int} {val : List UInt8} {gone : Bool} {ttl : Int} (hs : isS m c = true)
    (h : 0 ≤ o ∧ o < 5 ∧ 1 ≤ q ∧ q ≤ 1099511627776 ∧ 1 ≤ (key.length : Int) ∧ (key.length : Int) ≤ 64 ∧ vo = o ∧ (val.length : Int) ≤ 1024 ∧ 0 ≤ ttl ∧ ttl ≤ 281474976710655) (hg : gone = true → (val.length : Int) = 0 ∧ ttl = 0) :
    true = isR ⟨o, q, key, m, c, vo, val, gone, ttl⟩ := by
  refine (isR_iff.2 ?_).symm
  obtain ⟨h1, h2, h3, h4, h5, h6, h7, h8, h9, h10⟩ := h
  exact ⟨hs, h1, h2, h3, h4, Int.ofNat_le.1 h5, Int.ofNat_le.1 h6, h7, Int.ofNat_le.1 h8, h9, h10, fun g => ⟨by have := (hg g).1; show val.length = 0; omega, (hg g).2⟩⟩

end Go.Proofs.Ytmliclfepnebfaa
