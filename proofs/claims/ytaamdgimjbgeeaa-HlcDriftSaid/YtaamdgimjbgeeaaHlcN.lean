/-
  Chapter 10's laws: what all of them ask at their end ('known').
-/
import Derived.Test.YtaamdgimjbgeeaaHlcH
namespace Go.Proofs.Ytaamdgimjbgeeaa
open Go.RowKit

theorem send_to (w : World) (B : Nat) (l : St) (b n : Int) {r : St × Int} {l' : St} (hA : At w B 75 (clkC l b)) (hI : ClkI l b) (h1 : sendF l b n = r) (h2 : sendL l b n = l') :
    Calls Try.prog 20 #[.pointer (some ⟨B, 0, none⟩), .int .i64 n] w (SendPost w B 75 r l' b) := by
  subst h1 h2; exact send_any w B l b n hA hI
theorem raise_to (w : World) (B : Nat) (l : St) (b n : Int) {r b' : Int} (hA : At w B 75 (clkC l b)) (h1 : raiseF b n = r) (h2 : raiseB b n = b') :
    Calls Try.prog 18 #[.pointer (some ⟨B, 0, none⟩), .int .i64 n] w fun e w' => e = .returned (.int .i64 r) ∧ At w' B 75 (clkC l b') ∧ Chg [B] w w' := by
  subst h1 h2; exact raise_any w B l b n hA
theorem hear_to (w : World) (B : Nat) (l : St) (b n : Int) (A : Option Addr) (k c : Nat) (xs : List St) {r : Int} {l' : St} (hA : At w B 75 (clkC l b)) (hk : xs.length = k) (hr : Rd w 2 A xs.length (cS xs)) (hAw : Away A xs.length [B]) (hl : xs.length ≤ 65536) (hc : xs.length ≤ c) (h1 : hearF n xs = r) (h2 : hearL l n xs = l') :
    Calls Try.prog 19 #[.pointer (some ⟨B, 0, none⟩), .int .i64 n, .slice A k c] w fun e w' => e = .returned (.int .i64 r) ∧ At w' B 75 (clkC l' b) ∧ Chg [B] w w' := by
  subst h1 h2; exact hear_any w B l b n A k c xs hk hA hr hAw hl hc
theorem ClkI.mk' {m c b : Int} (h : 0 ≤ m ∧ m ≤ 281474976710655 ∧ 0 ≤ c ∧ c ≤ 65535 ∧ 0 ≤ b ∧ b ≤ 281474976710655) : ClkI ⟨m, c⟩ b := ⟨h.1, h.2.1, h.2.2.1, h.2.2.2.1, h.2.2.2.2.1, h.2.2.2.2.2⟩

set_option maxHeartbeats 1600000 in
theorem known_any (w : World) : Calls Try.prog 16 #[] w fun e w' => e = .returned (.bool true) ∧ Chg [] w w' := by
  go_enter Try.func16, Try.ntmps16
  go_wp2_with (fail)
  refine (new_yes 5 _ (by omega) (by omega)).mono ?_
  rintro e w1 ⟨rfl, rfl⟩
  go_wp2_with (fail)
  refine (send_to _ w.heap.size ⟨5, 0⟩ 5 3 (r := (⟨0, 0⟩, 18)) (l' := ⟨5, 0⟩) (At.new _ _ _) (ClkI.mk' (by omega)) (by simp [sendF, nextS, St.z]) (by simp [sendL, sendF, nextS, St.z])).mono ?_
  rintro e w2 ⟨rfl, hA2, hch2⟩
  have hB2 := hA2.lt
  go_wp2_with (fail)
  refine (raise_to _ w.heap.size ⟨5, 0⟩ 5 100 (r := 0) (b' := 100) (hA2.keep ((Chg.refl [] _).alloc _) (by simp)) (by simp [raiseF]) (by simp [raiseB])).mono ?_
  rintro e w3 ⟨rfl, hA3, hch3⟩
  go_wp2_with (fail)
  refine (send_to _ w.heap.size ⟨5, 0⟩ 100 3 (r := (⟨5, 1⟩, 0)) (l' := ⟨5, 1⟩) hA3 (ClkI.mk' (by omega)) (by simp [sendF, nextS]) (by simp [sendL, sendF, nextS])).mono ?_
  rintro e w4 ⟨rfl, hA4, hch4⟩
  have hB4 := hA4.lt
  go_wp2_with (fail)
  refine (hear_to _ w.heap.size ⟨5, 1⟩ 100 7 (some ⟨w4.heap.size + 1, 0, none⟩) 1 1 [⟨9, 2⟩] (r := 0) (l' := ⟨9, 2⟩) ((hA4.keep ((Chg.refl [] _).alloc _) (by simp)).keep ((Chg.refl [] _).alloc _) (by simp)) rfl (Rd.new' (by simp) rfl rfl) (Away.at (by simp; omega)) (by simp) (by simp) (by simp [hearF, isS]) (by simp [hearL, hearF, isS, maxS, maxS2, cmpS])).mono ?_
  rintro e w5 ⟨rfl, hA5, hch5⟩
  have ha5 := ((At.new w4 24 #[.int .i64 5, .int .i64 1]).keep ((Chg.refl [] _).alloc _) (by simp)).keep hch5 (by simp; omega)
  go_wp2_with (fail)
  refine (send_to _ w.heap.size ⟨9, 2⟩ 100 8 (r := (⟨9, 3⟩, 0)) (l' := ⟨9, 3⟩) hA5 (ClkI.mk' (by omega)) (by simp [sendF, nextS]) (by simp [sendL, sendF, nextS])).mono ?_
  rintro e w6 ⟨rfl, hA6, hch6⟩
  have ha6 := ha5.keep hch6 (by simp; omega)
  have b0 := ha6.cell 0
  have b1 := ha6.cell 1
  have hlt := ha6.lt
  go_wp2_with (fail)
  go_ret
  exact ⟨rfl, ((((((((((Chg.refl _ _).alloc _).trans hch2 (by simp)).alloc _).trans hch3 (by simp)).trans hch4 (by simp)).alloc _).alloc _).trans hch5 (by simp)).trans hch6 (by simp)).alloc _⟩
end Go.Proofs.Ytaamdgimjbgeeaa
