
/-
  frame: four, fromFour, headOf; the reference's Four, FromFour.
-/
import Derived.Test.YtdfkednggjelcaaFraP
import Derived.Test.YtdfkednggjelcaaOctS
import Derived.Test.YtdfkednggjelcaaJoin
import Derived.Test.YtdfkednggjelcaaRef1C
import Derived.Test.YtdfkednggjelcaaMBase
import Derived.Outline
namespace Go.Proofs.Ytdfkednggjelcaa
open Go.RowKit
set_option linter.unusedVariables false

/-- A slice that was built. -/
theorem own_built (w : World) (e : TypeId) (l : List Value) (cs : Array Value) (n : Nat) (hcs : cs = l.toArray) (hl : l.length = n) (hn : n ≤ 1099511627776) : (w.alloc (.cells cs e)).ownsRow w.heap.size e 1 (.slice (some ⟨w.heap.size, 0, none⟩) n n) n l := by
  subst hcs
  refine ⟨by omega, .inr ⟨w.heap.size, n, l.toArray, rfl, Nat.le_refl _, heap_alloc_new w _, Nat.le_refl _, by unfold maxLen; omega, by simp [hl], by simp [← hl]⟩⟩

theorem four_cells (v : Nat) (hv : v < 4294967296) : cB (four v) = [.int .u8 ((v : Int) % 256), .int .u8 ((v : Int) / 256 % 256), .int .u8 ((v : Int) / 65536 % 256), .int .u8 ((v : Int) / 16777216)] := by
  simp only [four, cB, List.map_cons, List.map_nil]
  rw [toNat_ofNat8 (by omega), toNat_ofNat8 (by omega), toNat_ofNat8 (by omega), toNat_ofNat8 (by omega)]
  simp only [List.cons.injEq, and_true, Value.int.injEq, true_and]
  omega

set_option maxHeartbeats 800000 in
theorem four_any (w : World) (v : Nat) (hv : v < 4294967296) :
    Calls Try.prog 77 #[.int .u32 (v : Int)] w fun e w' => ∃ A c, e = .returned (.slice A 4 c) ∧ w'.ownsRow w.heap.size 5 1 (.slice A 4 c) 4 (cB (four v)) ∧ Chg [] w w' := by
  go_enter Try.func77, Try.ntmps77
  go_wp2_with (fail)
  go_ret
  exact ⟨_, _, rfl, own_built w _ _ _ 4 (by rw [four_cells v hv]) (by simp [cB_len, four_len]) (by omega), (Chg.refl _ _).alloc _⟩
set_option maxHeartbeats 800000 in
theorem refFour_any (w : World) (v : Nat) (hv : v < 4294967296) :
    Calls Try.prog 83 #[.int .u32 (v : Int)] w fun e w' => ∃ A c, e = .returned (.slice A 4 c) ∧ w'.ownsRow w.heap.size 5 1 (.slice A 4 c) 4 (cB (four v)) ∧ Chg [] w w' := by
  go_enter Try.func83, Try.ntmps83
  go_wp2_with (fail)
  go_ret
  exact ⟨_, _, rfl, own_built w _ _ _ 4 (by rw [four_cells v hv]) (by simp [cB_len, four_len]) (by omega), (Chg.refl _ _).alloc _⟩

/-- The four bytes that bytes begin with, as cells. -/
theorem Rd.four {w : World} {A : Option Addr} {L : List UInt8} (hr : Rd w 1 A L.length (cB L)) (h4 : 4 ≤ L.length) : ∃ (ad : Addr) (b0 b1 b2 b3 : UInt8), A = some ad ∧ ad.block < w.heap.size ∧
    w.cell? ad = some (.int .u8 (b0.toNat : Int)) ∧ w.cell? (ad.add 1) = some (.int .u8 (b1.toNat : Int)) ∧ w.cell? (ad.add 2) = some (.int .u8 (b2.toNat : Int)) ∧ w.cell? (ad.add 3) = some (.int .u8 (b3.toNat : Int)) ∧
    ofFour L = b0.toNat + 256 * b1.toNat + 65536 * b2.toNat + 16777216 * b3.toNat := by
  obtain ⟨ad, rfl, had, hc⟩ := hr.at_ (by omega)
  match L, h4 with
  | b0 :: b1 :: b2 :: b3 :: r, _ => exact ⟨ad, b0, b1, b2, b3, rfl, had, hc 0 _ rfl, hc 1 _ rfl, hc 2 _ rfl, hc 3 _ rfl, rfl⟩

theorem or32 {x c : Nat} (k : Nat) (hx : x < 2 ^ k) (h : x + c * 2 ^ k < 4294967296) : bits .or .u32 (x : Int) ((c : Int) * ((2 ^ k : Nat) : Int)) = ((x + c * 2 ^ k : Nat) : Int) := by
  rw [show (c : Int) * ((2 ^ k : Nat) : Int) = ((c * 2 ^ k : Nat) : Int) by simp, u32_or_nat _ _ (by omega) (by omega), Nat.mul_comm, Nat.or_comm, ← Nat.two_pow_add_eq_or_of_lt hx, Nat.add_comm, Nat.mul_comm]
theorem or4 (b0 b1 b2 b3 : UInt8) : bits .or .u32 (bits .or .u32 (bits .or .u32 (b0.toNat : Int) ((b1.toNat : Int) * 256)) ((b2.toNat : Int) * 65536)) ((b3.toNat : Int) * 16777216) = ((b0.toNat + 256 * b1.toNat + 65536 * b2.toNat + 16777216 * b3.toNat : Nat) : Int) := by
  have e0 := b0.toNat_lt
  have e1 := b1.toNat_lt
  have e2 := b2.toNat_lt
  have e3 := b3.toNat_lt
  have h1 := or32 (x := b0.toNat) (c := b1.toNat) 8 (by omega) (by omega)
  have h2 := or32 (x := b0.toNat + b1.toNat * 256) (c := b2.toNat) 16 (by omega) (by omega)
  have h3 := or32 (x := b0.toNat + b1.toNat * 256 + b2.toNat * 65536) (c := b3.toNat) 24 (by omega) (by omega)
  simp only [show ((2 ^ 8 : Nat) : Int) = 256 from rfl, show ((2 ^ 16 : Nat) : Int) = 65536 from rfl, show ((2 ^ 24 : Nat) : Int) = 16777216 from rfl, show (2 : Nat) ^ 8 = 256 from rfl, show (2 : Nat) ^ 16 = 65536 from rfl, show (2 : Nat) ^ 24 = 16777216 from rfl] at h1 h2 h3
  rw [h1, h2, h3]
  congr 1
  omega

set_option maxHeartbeats 1600000 in
theorem refFromFour_any (w : World) (A : Option Addr) (n c : Nat) (L : List UInt8) (hn : L.length = n) (hr : Rd w 1 A L.length (cB L)) (h4 : 4 ≤ L.length) (hl : L.length ≤ 1099511627776) :
    Calls Try.prog 63 #[.slice A n c] w fun e w' => e = .returned (.int .u32 (ofFour L : Nat)) ∧ Chg [] w w' := by
  obtain ⟨ad, b0, b1, b2, b3, rfl, had, hc0, hc1, hc2, hc3, hF⟩ := hr.four h4
  rw [hF]
  have e0 := b0.toNat_lt
  have e1 := b1.toNat_lt
  have e2 := b2.toNat_lt
  have e3 := b3.toNat_lt
  rw [hn] at h4 hl
  clear hr hF hn
  have hd1 : w.cell? ⟨ad.block, ad.off + 1, none⟩ = some (.int .u8 (b1.toNat : Int)) := hc1
  have hd2 : w.cell? ⟨ad.block, ad.off + 2, none⟩ = some (.int .u8 (b2.toNat : Int)) := hc2
  have hd3 : w.cell? ⟨ad.block, ad.off + 3, none⟩ = some (.int .u8 (b3.toNat : Int)) := hc3
  have i0 : 0 < n := by omega
  have i1 : (1 : Int) < (n : Int) := by omega
  have i2 : (2 : Int) < (n : Int) := by omega
  have i3 : (3 : Int) < (n : Int) := by omega
  go_enter Try.func63, Try.ntmps63
  go_wp2_with (fail)
  go_quiet (fail)
  go_wp2_with (fail)
  go_ret
  exact ⟨congrArg (fun z => Ending.returned (.int .u32 z)) (or4 b0 b1 b2 b3), (Chg.refl _ _).drewN _⟩
end Go.Proofs.Ytdfkednggjelcaa
