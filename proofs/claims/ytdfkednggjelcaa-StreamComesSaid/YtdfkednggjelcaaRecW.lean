
/-
  rec.Is, rec.Same; the reference's Is, Same.
-/
import Derived.Test.YtdfkednggjelcaaRecP
import Derived.Test.YtdfkednggjelcaaMStW
import Derived.Test.YtdfkednggjelcaaMBase
import Derived.Outline
import Derived.BigGuardPart
namespace Go.Proofs.Ytdfkednggjelcaa
open Go.RowKit

/-- A record in memory: what it says, and where its value lies. -/
structure RcV where
  r : Rc
  A : Option Addr
  cp : Nat
/-- A record's cells. -/
def RcV.cells (x : RcV) : List Value := [.int .i64 x.r.o, .int .i64 x.r.q, .string ⟨x.r.key.toArray⟩, .int .i64 x.r.m, .int .i64 x.r.c, .int .i64 x.r.vo, .slice x.A x.r.val.length x.cp, .bool x.r.gone, .int .i64 x.r.ttl]
/-- Its value reads. -/
def RcV.rd (w : World) (x : RcV) : Prop := Rd w 1 x.A x.r.val.length (cB x.r.val)

theorem isR_no {o q : Int} {key : List UInt8} {m c vo : Int} {val : List UInt8} {gone : Bool} {ttl : Int}
    (h : 0 ≤ o → o < 5 → 1 ≤ q → q ≤ 1099511627776 → 1 ≤ (key.length : Int) → (key.length : Int) ≤ 64 → vo = o → (val.length : Int) ≤ 1024 → 0 ≤ ttl → ttl ≤ 281474976710655 → (gone = true → (val.length : Int) = 0 ∧ ttl = 0) → False) :
    false = isR ⟨o, q, key, m, c, vo, val, gone, ttl⟩ := by
  refine (isR_not.2 fun k => ?_).symm
  obtain ⟨_, h1, h2, h3, h4, h5, h6, h7, h8, h9, h10, h11⟩ := k
  exact h h1 h2 h3 h4 (Int.ofNat_le.2 h5) (Int.ofNat_le.2 h6) h7 (Int.ofNat_le.2 h8) h9 h10 (fun g => ⟨by have : val.length = 0 := (h11 g).1; omega, (h11 g).2⟩)
theorem isR_yes {o q : Int} {key : List UInt8} {m c vo : Int} {val : List UInt8} {gone : Bool} {ttl : Int} (hs : isS m c = true)
    (h : 0 ≤ o ∧ o < 5 ∧ 1 ≤ q ∧ q ≤ 1099511627776 ∧ 1 ≤ (key.length : Int) ∧ (key.length : Int) ≤ 64 ∧ vo = o ∧ (val.length : Int) ≤ 1024 ∧ 0 ≤ ttl ∧ ttl ≤ 281474976710655) (hg : gone = true → (val.length : Int) = 0 ∧ ttl = 0) :
    true = isR ⟨o, q, key, m, c, vo, val, gone, ttl⟩ := by
  refine (isR_iff.2 ?_).symm
  obtain ⟨h1, h2, h3, h4, h5, h6, h7, h8, h9, h10⟩ := h
  exact ⟨hs, h1, h2, h3, h4, Int.ofNat_le.1 h5, Int.ofNat_le.1 h6, h7, Int.ofNat_le.1 h8, h9, h10, fun g => ⟨by have := (hg g).1; show val.length = 0; omega, (hg g).2⟩⟩

set_option maxRecDepth 100000 in
set_option maxHeartbeats 3200000 in
theorem recIs_any (w : World) (o q : Int) (key : List UInt8) (m c vo : Int) (A : Option Addr) (val : List UInt8) (cp : Nat) (gone : Bool) (ttl : Int) :
    Calls Try.prog 38 #[.agg #[.int .i64 o, .int .i64 q, .string ⟨key.toArray⟩, .int .i64 m, .int .i64 c, .int .i64 vo, .slice A val.length cp, .bool gone, .int .i64 ttl]] w fun e w' =>
      e = .returned (.bool (isR ⟨o, q, key, m, c, vo, val, gone, ttl⟩)) ∧ Chg [] w w' := by
  have hb := At.new w 51 #[.int .i64 o, .int .i64 q, .string ⟨key.toArray⟩, .int .i64 m, .int .i64 c, .int .i64 vo, .slice A val.length cp, .bool gone, .int .i64 ttl]
  have hch0 : Chg [] w (w.alloc (.cells #[.int .i64 o, .int .i64 q, .string ⟨key.toArray⟩, .int .i64 m, .int .i64 c, .int .i64 vo, .slice A val.length cp, .bool gone, .int .i64 ttl] 51)) := (Chg.refl _ _).alloc _
  cases hs : isS m c with
  | false =>
    have HS := Lib.hid hs
    clear hs
    have hF := Try.func38
    unfold Try.f38 at hF
    dsimp only [List.append] at hF
    go_enter hF, Try.ntmps38
    clear hF
    go_wp2_with (go_at_call 51; refine (pack_no _ _ _ HS.out).mono ?_; rintro e w1 ⟨rfl, hch1⟩)
    go_ret
    exact ⟨by simp [isR, HS.out], hch0.trans hch1 (by simp)⟩
  | true =>
    have HS := Lib.hid hs
    clear hs
    have hF := Try.func38
    unfold Try.f38 at hF
    dsimp only [List.append] at hF
    go_enter hF, Try.ntmps38
    clear hF
    go_wp2_with (fail)
    refine (pack_yes _ _ _ HS.out).mono ?_
    rintro e w1 ⟨rfl, hch1⟩
    have h1 := hb.keep hch1 (by simp)
    have c0 := h1.cell 0
    have c1 := h1.cell 1
    have c2 := h1.cell 2
    have c5 := h1.cell 5
    have c6 := h1.cell 6
    have c7 := h1.cell 7
    have c8 := h1.cell 8
    go_wp2_with (fail)
    all_goals
      go_ret
      refine ⟨ret_bool ?_, hch0.trans hch1 (by simp)⟩
      first
        | (refine isR_no fun h1 h2 h3 h4 h5 h6 h7 h8 h9 h10 h11 => ?_
           first | omega | (have h12 := h11 (by assumption); omega))
        | (refine isR_yes HS.out ?_ ?_
           · omega
           · intro hg; simp_all)
        | (by_cases ht : ttl = 0
           · rw [beq_iff_eq.2 ht]; exact isR_yes HS.out (by omega) (fun _ => ⟨by assumption, ht⟩)
           · rw [beq_eq_false_iff_ne.2 ht]; exact isR_no fun h1 h2 h3 h4 h5 h6 h7 h8 h9 h10 h11 => ht (h11 (by assumption)).2)
        | trace_state
end Go.Proofs.Ytdfkednggjelcaa
