
/-
  octet's Reader: Raw, Bytes, Nums, Left, Good, Whole; NewReader.
-/
import Derived.Test.YtkdbjhmffnjimaaOctR
namespace Go.Proofs.Ytkdbjhmffnjimaa
open Go.RowKit
attribute [local go_sem ↓] run_min2 run_max2

theorem RrG.keep {Ty : TypeId} {w0 : World} {B : Nat} {S : List Nat} {w w' : World} {A : Option Addr} {c : Nat} {L : List UInt8} {b : Bool} (h : RrG Ty w0 B S w A c L b) {T : List Nat} (hc : Chg T w w')
    (hT : ∀ k, k ∈ T → k ≠ B ∧ k ∉ S ∧ w0.heap.size ≤ k) : RrG Ty w0 B S w' A c L b :=
  ⟨h.at_.keep hc (fun hm => (hT B hm).1 rfl), h.rd.keep hc (fun h0 k hk hm => (hT k hm).2.1 (h.blk h0 k hk)), h.cap, h.chg.trans hc (fun k hk => .inr (hT k hk).2.2), h.blk, h.ne, h.err⟩
theorem RrG.here {Ty : TypeId} {w0 : World} {B : Nat} {S : List Nat} {w : World} {A : Option Addr} {c : Nat} {L : List UInt8} {b : Bool} (h : RrG Ty w0 B S w A c L b) : RrG Ty w B S w A c L b :=
  ⟨h.at_, h.rd, h.cap, Chg.refl _ _, h.blk, h.ne, h.err⟩
theorem RrG.trans {Ty : TypeId} {w0 : World} {B : Nat} {S : List Nat} {w w' : World} {A A' : Option Addr} {c c' : Nat} {L L' : List UInt8} {b b' : Bool} (h : RrG Ty w0 B S w A c L b) (k : RrG Ty w B S w' A' c' L' b') : RrG Ty w0 B S w' A' c' L' b' :=
  ⟨k.at_, k.rd, k.cap, h.chg.trans k.chg (fun _ hx => .inl hx), k.blk, k.ne, k.err⟩
theorem RrG.keep0 {Ty : TypeId} {w0 : World} {B : Nat} {S : List Nat} {w w' : World} {A : Option Addr} {c : Nat} {L : List UInt8} {b : Bool} (h : RrG Ty w0 B S w A c L b) (hc : Chg [] w w') : RrG Ty w0 B S w' A c L b :=
  h.keep hc (by simp)

/-- So many bytes taken off. -/
def takeRaw (L : List UInt8) (b : Bool) (n : Int) : List UInt8 × List UInt8 × Bool :=
  if 0 ≤ n ∧ n ≤ (L.length : Int) then (L.take n.toNat, L.drop n.toNat, b) else ([], [], true)

set_option maxHeartbeats 800000 in
theorem rraw_any (B : Nat) (S : List Nat) (w0 w : World) (A : Option Addr) (c : Nat) (L : List UInt8) (b : Bool) (n : Int) (h : RrG 100 w0 B S w A c L b) (hl : L.length ≤ 1099511627776) :
    Calls Try.prog 36 #[.pointer (some ⟨B, 0, none⟩), .int .i64 n] w fun e w' => ∃ A2 c2, e = .returned (.slice A2 (takeRaw L b n).1.length c2) ∧
      w'.ownsRow w.heap.size 5 1 (.slice A2 (takeRaw L b n).1.length c2) (takeRaw L b n).1.length (cB (takeRaw L b n).1) ∧ ∃ A' c', RrG 100 w0 B S w' A' c' (takeRaw L b n).2.1 (takeRaw L b n).2.2 := by
  obtain ⟨i0, hi, hz0, hz1, hz2⟩ := info_parts info8
  have hc0 := h.at_.cell 0
  have hf0 := h.at_.free 0
  simp only [List.getElem?_toArray, List.getElem?_cons_zero] at hc0
  by_cases hin : 0 ≤ n ∧ n ≤ (L.length : Int)
  · have Hn : Hid (takeRaw L b n = (L.take n.toNat, L.drop n.toNat, b)) := by unfold takeRaw Hid; rw [if_pos hin]
    obtain ⟨hn0, hn1⟩ := hin
    obtain ⟨k, rfl⟩ := Int.eq_ofNat_of_zero_le hn0
    have hcap := h.cap
    have hkl : k ≤ L.length := by omega
    have hn0' : ¬ ((k : Int) < 0) := by omega
    have hn1' : ¬ ((L.length : Int) < (k : Int)) := by omega
    have hsl := fun w => run_slice_hi (P := Try.prog) w Try.underlying28 hi A L.length c (k : Int) k rfl (by omega)
    have hsl2 := fun w => run_slice_lo (P := Try.prog) w Try.underlying28 hi hz1 A L.length c (k : Int) k rfl hkl
    have Hn' : Hid (takeRaw L b (k : Int) = (L.take k, L.drop k, b)) := Hn.out
    clear Hn
    have Hk : Hid ((L.take k).length = k) := by unfold Hid; rw [List.length_take]; omega
    clear hn0 hn1
    go_enter Try.func36, Try.ntmps36
    go_wp2_with (fail)
    refine (clone_any _ A k c (L.take k) Hk.out (h.rd.takeB hkl) (by rw [Hk.out]; omega)).mono ?_
    rintro e w2 ⟨A2, c2, rfl, hown, hch⟩
    have h2 := h.keep0 hch
    have hc2 := h2.at_.cell 0
    have hf2 := h2.at_.free 0
    simp only [List.getElem?_toArray, List.getElem?_cons_zero] at hc2
    go_wp2_with (fail)
    go_ret
    rw [Hn'.out]
    have e2 : ((L.take k, L.drop k, b) : List UInt8 × List UInt8 × Bool).1.length = k := Hk.out
    have hne : ∀ j, (Value.slice A2 k c2).ownBlock = some j → j ∉ [B] := by
      intro j hj hm
      have h1 := (hown.lt j hj).1
      have h3 := h.at_.lt
      simp at hm
      omega
    refine ⟨A2, c2, by rw [e2]; rfl, ?_, _, _, h2.setOf (A' := cutA A c k 1) (L' := L.drop k) (n := L.length - k) (by simp) (h2.rd.dropB hkl hcap) (by simp; omega) (fun h0 => by rw [cutA_blk]; exact h.blk (by simp at h0; omega)) (by intro hb; have := h.err hb; subst this; simp)⟩
    rw [e2]
    exact own_keep hown ((Chg.refl [B] _).setCell (.inl (by simp)) _) hne
  · have Hn : Hid (takeRaw L b n = ([], [], true)) := by unfold takeRaw Hid; rw [if_neg hin]
    by_cases hn0 : n < 0
    · clear hin
      go_enter Try.func36, Try.ntmps36
      go_wp2_with (go_at_call 64; refine (bad_any B S w0 _ _ _ _ _ h).mono ?_; rintro e w' ⟨rfl, hr'⟩)
      go_ret
      rw [Hn.out]
      exact ⟨none, 0, rfl, World.ownsRow_nil _ _ _ _, _, _, hr'⟩
    · have hn1 : (L.length : Int) < n := by omega
      have hn0' : 0 ≤ n := by omega
      clear hin hn0
      go_enter Try.func36, Try.ntmps36
      go_wp2_with (go_at_call 64; refine (bad_any B S w0 _ _ _ _ _ h).mono ?_; rintro e w' ⟨rfl, hr'⟩)
      go_ret
      rw [Hn.out]
      exact ⟨none, 0, rfl, World.ownsRow_nil _ _ _ _, _, _, hr'⟩

/-- A row taken off. -/
def takeRow (L : List UInt8) (b : Bool) : List UInt8 × List UInt8 × Bool := takeRaw (takeNum L b).2.1 (takeNum L b).2.2 ((takeNum L b).1 : Int)
theorem takeNum_len (L : List UInt8) (b : Bool) : (takeNum L b).2.1.length ≤ L.length := by
  unfold takeNum
  split
  · rename_i h; exact Nat.le_of_lt (dec_len h)
  · simp
theorem takeRaw_len (L : List UInt8) (b : Bool) (n : Int) : (takeRaw L b n).2.1.length ≤ L.length ∧ (takeRaw L b n).1.length ≤ L.length := by
  unfold takeRaw
  split <;> simp <;> omega

set_option maxHeartbeats 400000 in
theorem rbytes_any (B : Nat) (S : List Nat) (w0 w : World) (A : Option Addr) (c : Nat) (L : List UInt8) (b : Bool) (h : RrG 100 w0 B S w A c L b) (hl : L.length ≤ 1099511627776) :
    Calls Try.prog 66 #[.pointer (some ⟨B, 0, none⟩)] w fun e w' => ∃ A2 c2, e = .returned (.slice A2 (takeRow L b).1.length c2) ∧
      w'.ownsRow w.heap.size 5 1 (.slice A2 (takeRow L b).1.length c2) (takeRow L b).1.length (cB (takeRow L b).1) ∧ ∃ A' c', RrG 100 w0 B S w' A' c' (takeRow L b).2.1 (takeRow L b).2.2 := by
  have hlen := takeNum_len L b
  go_enter Try.func66, Try.ntmps66
  go_wp2_with (fail)
  refine (num_any B S w _ A c L b h.here hl).mono ?_
  rintro e w1 ⟨rfl, A1, c1, h1⟩
  go_wp2_with (fail)
  refine (rraw_any B S w _ A1 c1 _ _ _ h1 (by omega)).mono ?_
  rintro e w2 ⟨A2, c2, rfl, hown, A3, c3, h2⟩
  go_wp2_with (fail)
  go_ret
  have hsz := h1.chg.size
  exact ⟨A2, c2, rfl, own_base hown (fun k hk => Nat.le_trans hsz (hown.lt k hk).1), A3, c3, h.trans h2⟩

set_option maxHeartbeats 400000 in
theorem left_any (B : Nat) (S : List Nat) (w0 w : World) (A : Option Addr) (c : Nat) (L : List UInt8) (b : Bool) (h : RrG 100 w0 B S w A c L b) :
    Calls Try.prog 37 #[.pointer (some ⟨B, 0, none⟩)] w fun e w' => e = .returned (.int .i64 L.length) ∧ w = w' := by
  have hc0 := h.at_.cell 0
  simp only [List.getElem?_toArray, List.getElem?_cons_zero] at hc0
  go_enter Try.func37, Try.ntmps37
  go_wp2_with (fail)
  go_ret
  exact ⟨rfl, rfl⟩
set_option maxHeartbeats 400000 in
theorem good_any (B : Nat) (S : List Nat) (w0 w : World) (A : Option Addr) (c : Nat) (L : List UInt8) (b : Bool) (h : RrG 100 w0 B S w A c L b) :
    Calls Try.prog 67 #[.pointer (some ⟨B, 0, none⟩)] w fun e w' => e = .returned (.bool !b) ∧ w = w' := by
  have hc1 := h.at_.cell 1
  simp only [List.getElem?_toArray, List.getElem?_cons_succ, List.getElem?_cons_zero] at hc1
  go_enter Try.func67, Try.ntmps67
  go_wp2_with (fail)
  go_ret
  exact ⟨rfl, rfl⟩
theorem len0 (L : List UInt8) : ((L.length : Int) == 0) = decide (L = []) := by
  cases L
  · rfl
  · simp; omega
set_option maxHeartbeats 400000 in
theorem whole_any (B : Nat) (S : List Nat) (w0 w : World) (A : Option Addr) (c : Nat) (L : List UInt8) (b : Bool) (h : RrG 100 w0 B S w A c L b) :
    Calls Try.prog 38 #[.pointer (some ⟨B, 0, none⟩)] w fun e w' => e = .returned (.bool (!b && decide (L = []))) ∧ w = w' := by
  have hc0 := h.at_.cell 0
  simp only [List.getElem?_toArray, List.getElem?_cons_zero] at hc0
  cases b
  · go_enter Try.func38, Try.ntmps38
    go_wp2_with (go_at_call 67; refine (good_any B S w0 _ A c L _ h).mono ?_; rintro e w' ⟨rfl, rfl⟩)
    go_ret
    exact ⟨by simp [len0], rfl⟩
  · go_enter Try.func38, Try.ntmps38
    go_wp2_with (go_at_call 67; refine (good_any B S w0 _ A c L _ h).mono ?_; rintro e w' ⟨rfl, rfl⟩)
    go_ret
    exact ⟨by simp, rfl⟩

set_option maxHeartbeats 400000 in
theorem newReader_any (w : World) (A : Option Addr) (n c : Nat) (ps : List UInt8) (hn : ps.length = n) (hr : Rd w 1 A ps.length (cB ps)) (hlen : ps.length ≤ 1099511627776) :
    Calls Try.prog 33 #[.slice A n c] w fun e w' => ∃ B S A' c', e = .returned (.pointer (some ⟨B, 0, none⟩)) ∧ RrG 100 w' B S w' A' c' ps false ∧ Chg [] w w' ∧ w.heap.size ≤ B ∧ (∀ k ∈ S, w.heap.size ≤ k ∧ k < w'.heap.size) ∧ S.Nodup := by
  subst hn
  go_enter Try.func33, Try.ntmps33
  go_wp2_with (fail)
  refine (clone_any _ A ps.length c ps rfl hr hlen).mono ?_
  rintro e w2 ⟨A2, c2, rfl, hown, hch⟩
  go_wp2_with (fail)
  go_ret
  refine ⟨w2.heap.size, blk A2, A2, c2, rfl, ⟨At.new _ _ _, (Rd.of_own hown).alloc _, own_cap hown, Chg.refl _ _, fun _ _ hk => hk, ?_, by simp⟩, hch.alloc _, hch.size, ?_, by cases A2 <;> simp [blk]⟩
  · intro hm
    have := (own_in hown _ hm).2
    omega
  · intro k hk
    have := own_in hown _ hk
    simp
    omega
end Go.Proofs.Ytkdbjhmffnjimaa
