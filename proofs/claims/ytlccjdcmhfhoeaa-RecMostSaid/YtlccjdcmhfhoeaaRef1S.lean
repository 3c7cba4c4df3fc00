
/-
  The reference's Reader (chapter 1): Bytes, Whole.
-/
import Derived.Test.YtlccjdcmhfhoeaaRef1R
namespace Go.Proofs.Ytlccjdcmhfhoeaa
open Go.RowKit

set_option maxHeartbeats 400000 in
theorem fbytes_any (B : Nat) (S : List Nat) (w0 w : World) (A : Option Addr) (c : Nat) (L : List UInt8) (b : Bool) (h : RrG 73 w0 B S w A c L b) (hl : L.length ≤ 1099511627776) :
    Calls Try.prog 44 #[.pointer (some ⟨B, 0, none⟩)] w fun e w' => ∃ A2 c2, e = .returned (.slice A2 (takeRow L b).1.length c2) ∧
      w'.ownsRow w.heap.size 5 1 (.slice A2 (takeRow L b).1.length c2) (takeRow L b).1.length (cB (takeRow L b).1) ∧ ∃ A' c', RrG 73 w0 B S w' A' c' (takeRow L b).2.1 (takeRow L b).2.2 := by
  have hlen := takeNum_len L b
  have Htr : Hid (takeRow L b = takeRaw (takeNum L b).2.1 (takeNum L b).2.2 ((takeNum L b).1 : Int)) := rfl
  generalize takeRow L b = R at *
  go_enter Try.func44, Try.ntmps44
  go_wp2_with (fail)
  refine (fnum_any B S w _ A c L b h.here hl).mono ?_
  generalize takeNum L b = N at *
  obtain ⟨m, L1, b1⟩ := N
  rintro e w1 ⟨rfl, A1, c1, h1⟩
  simp only at h1 hlen Htr ⊢
  have hc1 := h1.at_.cell 1
  simp only [List.getElem?_toArray, List.getElem?_cons_zero, List.getElem?_cons_succ] at hc1
  have hsz := h1.chg.size
  cases b1 with
  | true =>
    obtain rfl := h1.err rfl
    go_wp2_with (fail)
    go_ret
    have e : takeRaw [] true (m : Int) = ([], [], true) := by
      unfold takeRaw
      split <;> simp
    rw [Htr.out, e]
    exact ⟨none, 0, rfl, World.ownsRow_nil _ _ _ _, A1, c1, h.trans h1⟩
  | false =>
    go_wp2_with (fail)
    refine (fraw_any B S w _ A1 c1 L1 false _ h1 (by omega)).mono ?_
    rw [← Htr.out]
    rintro e w2 ⟨A2, c2, rfl, hown, A3, c3, h2⟩
    go_wp2_with (fail)
    go_ret
    exact ⟨A2, c2, rfl, own_base hown (fun k hk => Nat.le_trans hsz (hown.lt k hk).1), A3, c3, h.trans h2⟩

set_option maxHeartbeats 400000 in
theorem fwhole_any (B : Nat) (S : List Nat) (w0 w : World) (A : Option Addr) (c : Nat) (L : List UInt8) (b : Bool) (h : RrG 73 w0 B S w A c L b) :
    Calls Try.prog 45 #[.pointer (some ⟨B, 0, none⟩)] w fun e w' => e = .returned (.bool (!b && decide (L = []))) ∧ w = w' := by
  have hc0 := h.at_.cell 0
  have hc1 := h.at_.cell 1
  simp only [List.getElem?_toArray, List.getElem?_cons_zero, List.getElem?_cons_succ] at hc0 hc1
  cases b
  all_goals
    go_enter Try.func45, Try.ntmps45
    go_wp2_with (fail)
    go_ret
    exact ⟨by simp [len0], rfl⟩
end Go.Proofs.Ytlccjdcmhfhoeaa
