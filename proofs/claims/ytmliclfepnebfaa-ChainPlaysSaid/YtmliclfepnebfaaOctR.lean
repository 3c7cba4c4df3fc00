
/-
  octet's Reader: what each method does, by its bytes.
-/
import Derived.Test.YtmliclfepnebfaaOctW
namespace Go.Proofs.Ytmliclfepnebfaa
open Go.RowKit
attribute [local go_sem ↓] run_min2 run_max2

/-- A Reader at block B: the bytes that are left, whether it erred; its bytes lie in blocks of S; only it has changed since w0. -/
structure RrG (Ty : TypeId) (w0 : World) (B : Nat) (S : List Nat) (w : World) (A : Option Addr) (c : Nat) (rest : List UInt8) (bad : Bool) : Prop where
  at_ : At w B Ty #[.slice A rest.length c, .bool bad]
  rd : Rd w 1 A rest.length (cB rest)
  cap : rest.length ≤ c
  chg : Chg [B] w0 w
  blk : 0 < rest.length → ∀ k, k ∈ blk A → k ∈ S
  ne : B ∉ S
  err : bad = true → rest = []

theorem RrG.setOf {Ty : TypeId} {w0 : World} {B : Nat} {S : List Nat} {w : World} {A A' : Option Addr} {c c' : Nat} {L L' : List UInt8} {b : Bool} {n : Nat} (h : RrG Ty w0 B S w A c L b) (hn : n = L'.length) (hr : Rd w 1 A' L'.length (cB L')) (hc : L'.length ≤ c') (hb : 0 < L'.length → ∀ k, k ∈ Go.Proofs.Ytmliclfepnebfaa.blk A' → k ∈ S) (he : b = true → L' = []) :
    RrG Ty w0 B S (w.setCell ⟨B, 0, none⟩ (.slice A' n c')) A' c' L' b := by
  subst hn
  exact ⟨h.at_.set_ 0 _, hr.keep (S := [B]) ((Chg.refl _ _).setCell (.inl (by simp)) _) (fun h0 k hk hm => by
    have h1 := hb h0 k hk
    have h2 := h.ne
    simp at hm
    exact h2 (hm ▸ h1)), hc, h.chg.setCell (.inl (by simp)) _, hb, h.ne, he⟩

/-- A number taken off: the number, what is left, whether it erred. -/
def takeNum (L : List UInt8) (b : Bool) : Nat × List UInt8 × Bool :=
  match dec L with
  | some (n, r) => (n, r, b)
  | none => (0, [], true)

theorem take_none {L : List UInt8} {b : Bool} (h : dec L = none) : takeNum L b = (0, [], true) := by unfold takeNum; rw [h]
theorem take_some {L r : List UInt8} {b : Bool} {n : Nat} (h : dec L = some (n, r)) : takeNum L b = (n, r, b) := by unfold takeNum; rw [h]

theorem and127 (c : UInt8) : bits .and .u8 (c.toNat : Int) 127 = ((c.toNat % 128 : Nat) : Int) := by
  rw [show (127 : Int) = ((127 : Nat) : Int) by rfl, u8_and_nat _ _ c.toNat_lt (by omega), show (127 : Nat) = 2 ^ 7 - 1 by rfl, Nat.and_two_pow_sub_one_eq_mod]
theorem or64 {x c k : Nat} (hx : x < 128 ^ k) (hk : k < 9) : bits .or .u64 (x : Int) (IntKind.u64.wrap ((c : Int) % 128 * 2 ^ (7 * k))) = ((x + c % 128 * 128 ^ k : Nat) : Int) := by
  have e : (128 : Nat) ^ k = 2 ^ (7 * k) := by rw [show (128 : Nat) = 2 ^ 7 by rfl, ← Nat.pow_mul]
  have hle : (2 : Nat) ^ (7 * k) ≤ 2 ^ 56 := Nat.pow_le_pow_right (by omega) (by omega)
  have h56 : (2 : Nat) ^ 56 = 72057594037927936 := by decide
  rw [e] at hx ⊢
  have hm : c % 128 * 2 ^ (7 * k) ≤ 127 * 2 ^ (7 * k) := Nat.mul_le_mul_right _ (by omega)
  have hw : IntKind.u64.wrap ((c : Int) % 128 * 2 ^ (7 * k)) = ((c % 128 * 2 ^ (7 * k) : Nat) : Int) := by
    have h1 : (c : Int) % 128 * 2 ^ (7 * k) = ((c % 128 * 2 ^ (7 * k) : Nat) : Int) := by simp
    rw [h1]
    generalize c % 128 * 2 ^ (7 * k) = y at *
    show ((y : Int) % 18446744073709551616) = _
    omega
  have h64 : c % 128 * 2 ^ (7 * k) < 2 ^ 64 := by have : (2 : Nat) ^ 64 = 18446744073709551616 := by decide
                                                  omega
  rw [hw, u64_or_nat _ _ (by omega) (by omega), Nat.mul_comm, Nat.or_comm, ← Nat.two_pow_add_eq_or_of_lt hx, Nat.add_comm, Nat.mul_comm]

end Go.Proofs.Ytmliclfepnebfaa
