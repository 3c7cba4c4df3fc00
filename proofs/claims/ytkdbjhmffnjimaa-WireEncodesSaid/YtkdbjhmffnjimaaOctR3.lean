
/-
  octet's Reader: Nums; what a nil Reader does.
-/
import Derived.Test.YtkdbjhmffnjimaaOctR2
namespace Go.Proofs.Ytkdbjhmffnjimaa
open Go.RowKit

/-- Behind k numbers: what is left, whether it erred. -/
def numsSt (L : List UInt8) (b : Bool) : Nat → List UInt8 × Bool
  | 0 => (L, b)
  | k + 1 => (takeNum (numsSt L b k).1 (numsSt L b k).2).2
/-- The number of that place. -/
def numAt (L : List UInt8) (b : Bool) (k : Nat) : Nat := (takeNum (numsSt L b k).1 (numsSt L b k).2).1
theorem numsSt_len (L : List UInt8) (b : Bool) (k : Nat) : (numsSt L b k).1.length ≤ L.length := by
  induction k with
  | zero => exact Nat.le_refl _
  | succ k ih => exact Nat.le_trans (takeNum_len _ _) ih

/-- The cells of pointers. -/
def cP (l : List (Option Addr)) : List Value := l.map Value.pointer
theorem cP_get {l : List (Option Addr)} {k : Nat} (h : k < l.length) : (cP l)[k]? = some (.pointer l[k]) := by simp [cP, h]

set_option maxHeartbeats 800000 in
theorem rnums_any (B : Nat) (S T : List Nat) (w0 w : World) (A : Option Addr) (c : Nat) (L : List UInt8) (b : Bool) (h : RrG 100 w0 B S w A c L b) (hl : L.length ≤ 1099511627776)
    (A2 : Option Addr) (n2 c2 : Nat) (ps : List (Option Addr)) (hn : ps.length = n2) (hr : Rd w 1 A2 ps.length (cP ps)) (hps : ps.length ≤ 1099511627776) (hA : Away A2 ps.length (B :: T))
    (hT : ∀ k, k ∈ T → k ≠ B ∧ k ∉ S) (hpT : ∀ ad, some ad ∈ ps → ad.block ∈ T)
    (I : Nat → World → Prop) (hI0 : I 0 w) (hIk : ∀ k w1 w2, I k w1 → Chg [B] w1 w2 → I k w2)
    (hIn : ∀ k w1, ps[k]? = some none → I k w1 → I (k + 1) w1)
    (hIs : ∀ k w1 ad, ps[k]? = some (some ad) → I k w1 → (∃ old, w1.cell? ad = some old) ∧ w1.frozen? ad = false ∧ I (k + 1) (w1.setCell ad (.int .i64 (numAt L b k)))) :
    Calls Try.prog 34 #[.pointer (some ⟨B, 0, none⟩), .slice A2 n2 c2] w fun e w' => e = .returned (.tuple #[]) ∧ I ps.length w' ∧ Chg (B :: T) w w' ∧
      ∃ A' c', RrG 100 w' B S w' A' c' (numsSt L b ps.length).1 (numsSt L b ps.length).2 := by
  subst hn
  have HI0 := Lib.hid hI0
  have HIk := Lib.hid hIk
  have HIn := Lib.hid hIn
  have HIs := Lib.hid hIs
  have HT := Lib.hid hT
  have HpT := Lib.hid hpT
  have HA := Lib.hid hA
  clear hI0 hIk hIn hIs hT hpT hA
  go_enter Try.func34, Try.ntmps34
  go_wp2_with (fail)
  go_loopw [9] (fun i wr => ∃ (k : Nat) (A' : Option Addr) (c' : Nat), k ≤ ps.length ∧ i = .int .i64 k ∧ Hid (I k wr) ∧ Chg (B :: T) w wr ∧ RrG 100 wr B S wr A' c' (numsSt L b k).1 (numsSt L b k).2) (fun i _ => ps.length - (intOf i).toNat)
  case atStart => exact ⟨0, A, c, Nat.zero_le _, rfl, HI0.out, Chg.refl _ _, h.here⟩
  case round =>
    obtain ⟨k, A1, c1, hk, rfl, HI, hch, hw1⟩ := hrel
    by_cases hlt : k < ps.length
    · have hr1 := hr.keep hch HA.out
      obtain ⟨ad, u, rfl, had, hu, hc⟩ := hr1.get hlt
      rw [cP_get hlt] at hu
      have Hlen := Lib.hid (numsSt_len L b k)
      have Hg : Hid (ps[k]? = some ps[k]) := List.getElem?_eq_getElem hlt
      have Hmem : Hid (ps[k] ∈ ps) := List.getElem_mem hlt
      generalize ps[k] = p at *
      obtain rfl : Value.pointer p = u := by simpa using hu
      clear hu
      have Hst : Hid ((numsSt L b (k + 1)) = (takeNum (numsSt L b k).1 (numsSt L b k).2).2) := rfl
      have Hnu : Hid (numAt L b k = (takeNum (numsSt L b k).1 (numsSt L b k).2).1) := rfl
      generalize numsSt L b k = st at *
      cases p with
      | none =>
        go_wp2_with (fail)
        refine (num_any B S wr _ A1 c1 st.1 st.2 hw1 (by have := Hlen.out; omega)).mono ?_
        rintro e w2 ⟨rfl, A3, c3, hw2⟩
        have hch2 := hw2.chg
        go_wp2_with (fail)
        go_roundw
        case rel =>
          refine ⟨k + 1, A3, c3, by omega, by go_num, HIn.out k _ Hg.out (HIk.out k _ _ HI.out hch2), hch.trans hch2 (by simp), ?_⟩
          rw [Hst.out]
          exact hw2.here
        case measure => simp [intOf]; omega
      | some pa =>
        go_wp2_with (fail)
        refine (num_any B S wr _ A1 c1 st.1 st.2 hw1 (by have := Hlen.out; omega)).mono ?_
        rintro e w2 ⟨rfl, A3, c3, hw2⟩
        have hch2 := hw2.chg
        obtain ⟨⟨old, hcell⟩, hfree, hI2⟩ := HIs.out k w2 pa Hg.out (HIk.out k _ _ HI.out hch2)
        rw [Hnu.out] at hI2
        have HI2 := Lib.hid hI2
        clear hI2
        have hpb := HpT.out pa Hmem.out
        have hpb2 := HT.out _ hpb
        go_wp2_with (fail)
        go_roundw
        case rel =>
          have hcs : Chg [pa.block] w2 (w2.setCell pa (.int .i64 ((takeNum st.1 st.2).1 : Int))) := (Chg.refl _ _).setCell (.inl (by simp)) _
          refine ⟨k + 1, A3, c3, by omega, by go_num, HI2.out, (hch.trans hch2 (by simp)).setCell (.inl (by simp [hpb])) _, ?_⟩
          rw [Hst.out]
          have h3 := hw2.here
          exact ⟨h3.at_.keep hcs (by simp; exact fun e => hpb2.1 e.symm), h3.rd.keep hcs (fun h0 j hj hm => by simp at hm; exact hpb2.2 (hm ▸ h3.blk h0 j hj)), h3.cap, Chg.refl _ _, h3.blk, h3.ne, h3.err⟩
        case measure => simp [intOf]; omega
    · obtain rfl : k = ps.length := by omega
      go_wp2_with (fail)
      go_end0
      exact ⟨rfl, HI.out, hch, A1, c1, hw1⟩

set_option maxHeartbeats 400000 in
theorem rbad_nil (w : World) : Calls Try.prog 64 #[.pointer none] w fun e w' => e = .returned (.tuple #[]) ∧ w = w' := by
  go_enter Try.func64, Try.ntmps64
  go_wp2_with (fail)
  go_end0
  exact ⟨rfl, rfl⟩
set_option maxHeartbeats 400000 in
theorem rnum_nil (w : World) : Calls Try.prog 63 #[.pointer none] w fun e w' => e = .returned (.int .i64 0) ∧ w = w' := by
  go_enter Try.func63, Try.ntmps63
  go_wp2_with (fail)
  go_ret
  exact ⟨rfl, rfl⟩
set_option maxHeartbeats 400000 in
theorem rraw_nil (n : Int) (w : World) : Calls Try.prog 36 #[.pointer none, .int .i64 n] w fun e w' => e = .returned (.slice none 0 0) ∧ w = w' := by
  go_enter Try.func36, Try.ntmps36
  go_wp2_with (go_at_call 64; refine (rbad_nil _).mono ?_; rintro e w' ⟨rfl, rfl⟩)
  go_ret
  exact ⟨rfl, rfl⟩
set_option maxHeartbeats 400000 in
theorem rbytes_nil (w : World) : Calls Try.prog 66 #[.pointer none] w fun e w' => e = .returned (.slice none 0 0) ∧ w = w' := by
  go_enter Try.func66, Try.ntmps66
  go_wp2_with (first | (go_at_call 63; refine (rnum_nil _).mono ?_; rintro e w' ⟨rfl, rfl⟩) | (go_at_call 36; refine (rraw_nil _ _).mono ?_; rintro e w' ⟨rfl, rfl⟩))
  go_ret
  exact ⟨rfl, rfl⟩
set_option maxHeartbeats 400000 in
theorem rleft_nil (w : World) : Calls Try.prog 37 #[.pointer none] w fun e w' => e = .returned (.int .i64 0) ∧ w = w' := by
  go_enter Try.func37, Try.ntmps37
  go_wp2_with (fail)
  go_ret
  exact ⟨rfl, rfl⟩
set_option maxHeartbeats 400000 in
theorem rgood_nil (w : World) : Calls Try.prog 67 #[.pointer none] w fun e w' => e = .returned (.bool false) ∧ w = w' := by
  go_enter Try.func67, Try.ntmps67
  go_wp2_with (fail)
  go_ret
  exact ⟨rfl, rfl⟩
set_option maxHeartbeats 400000 in
theorem rwhole_nil (w : World) : Calls Try.prog 38 #[.pointer none] w fun e w' => e = .returned (.bool false) ∧ w = w' := by
  go_enter Try.func38, Try.ntmps38
  go_wp2_with (go_at_call 67; refine (rgood_nil _).mono ?_; rintro e w' ⟨rfl, rfl⟩)
  go_ret
  exact ⟨rfl, rfl⟩
end Go.Proofs.Ytkdbjhmffnjimaa
