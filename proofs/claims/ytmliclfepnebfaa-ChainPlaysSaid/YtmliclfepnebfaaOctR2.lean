
/-
  octet's Reader: Raw, Bytes, Nums, Left, Good, Whole; NewReader.
-/
import Derived.Test.YtmliclfepnebfaaOctR
namespace Go.Proofs.Ytmliclfepnebfaa
open Go.RowKit
attribute [local go_sem ↓] run_min2 run_max2

theorem RrG.keep {Ty : TypeId} {w0 : World} {B : Nat} {S : List Nat} {w w' : World} {A : Option Addr} {c : Nat} {L : List UInt8} {b : Bool} (h : RrG Ty w0 B S w A c L b) {T : List Nat} (hc : Chg T w w')
    (hT : ∀ k, k ∈ T → k ≠ B ∧ k ∉ S ∧ w0.heap.size ≤ k) : RrG Ty w0 B S w' A c L b :=
  ⟨h.at_.keep hc (fun hm => (hT B hm).1 rfl), h.rd.keep hc (fun h0 k hk hm => (hT k hm).2.1 (h.blk h0 k hk)), h.cap, h.chg.trans hc (fun k hk => .inr (hT k hk).2.2), h.blk, h.ne, h.err⟩
theorem RrG.here {Ty : TypeId} {w0 : World} {B : Nat} {S : List Nat} {w : World} {A : Option Addr} {c : Nat} {L : List UInt8} {b : Bool} (h : RrG Ty w0 B S w A c L b) : RrG Ty w B S w A c L b :=
  ⟨h.at_, h.rd, h.cap, Chg.refl _ _, h.blk, h.ne, h.err⟩
theorem RrG.trans {Ty : TypeId} {w0 : World} {B : Nat} {S : List Nat} {w w' : World} {A A' : Option Addr} {c c' : Nat} {L L' : List UInt8} {b b' : Bool} (h : RrG Ty w0 B S w A c L b) (k : RrG Ty w B S w' A' c' L' b') : RrG Ty w0 B S w' A' c' L' b' :=
  ⟨k.at_, k.rd, k.cap, h.chg.trans k.chg (fun _ hx => .inl hx), k.blk, k.ne, k.err⟩
theorem RrG.keep0 {Ty : TypeId} {w0 : World} {B : Nat} {S : List Nat} {w w' : World} {A : Option Addr} {c : Nat} {L : List UInt8} {b : Bool} (h : RrG Ty w0 B S w A c L b) (hc : Chg [] w w') : RrG Ty w0 B S w' A c L b :=
  h.keep hc (by simp)

/-- So many bytes taken off. -/
def takeRaw (L : List UInt8) (b : Bool) (n : Int) : List UInt8 × List UInt8 × Bool :=
  if 0 ≤ n ∧ n ≤ (L.length : Int) then (L.take n.toNat, L.drop n.toNat, b) else ([], [], true)

/-- A row taken off. -/
def takeRow (L : List UInt8) (b : Bool) : List UInt8 × List UInt8 × Bool := takeRaw (takeNum L b).2.1 (takeNum L b).2.2 ((takeNum L b).1 : Int)
theorem takeNum_len (L : List UInt8) (b : Bool) : (takeNum L b).2.1.length ≤ L.length := by
  unfold takeNum
  split
  · rename_i h; exact Nat.le_of_lt (dec_len h)
  · simp
theorem takeRaw_len (L : List UInt8) (b : Bool) (n : Int) : (takeRaw L b n).2.1.length ≤ L.length ∧ (takeRaw L b n).1.length ≤ L.length := by
  unfold takeRaw
  split <;> simp <;> omega

theorem len0 (L : List UInt8) : ((L.length : Int) == 0) = decide (L = []) := by
  cases L
  · rfl
  · simp; omega
end Go.Proofs.Ytmliclfepnebfaa
