
/-
  octet's Reader: what each method does, by its bytes.
-/
import Derived.Test.YtkdbjhmffnjimaaOctW
namespace Go.Proofs.Ytkdbjhmffnjimaa
open Go.RowKit
attribute [local go_sem ↓] run_min2 run_max2

/-- A Reader at block B: the bytes that are left, whether it erred; its bytes lie in blocks of S; only it has changed since w0. -/
structure RrG (Ty : TypeId) (w0 : World) (B : Nat) (S : List Nat) (w : World) (A : Option Addr) (c : Nat) (rest : List UInt8) (bad : Bool) : Prop where
  at_ : At w B Ty #[.slice A rest.length c, .bool bad]
  rd : Rd w 1 A rest.length (cB rest)
  cap : rest.length ≤ c
  chg : Chg [B] w0 w
  blk : 0 < rest.length → ∀ k, k ∈ blk A → k ∈ S
  ne : B ∉ S
  err : bad = true → rest = []

theorem RrG.setOf {Ty : TypeId} {w0 : World} {B : Nat} {S : List Nat} {w : World} {A A' : Option Addr} {c c' : Nat} {L L' : List UInt8} {b : Bool} {n : Nat} (h : RrG Ty w0 B S w A c L b) (hn : n = L'.length) (hr : Rd w 1 A' L'.length (cB L')) (hc : L'.length ≤ c') (hb : 0 < L'.length → ∀ k, k ∈ Go.Proofs.Ytkdbjhmffnjimaa.blk A' → k ∈ S) (he : b = true → L' = []) :
    RrG Ty w0 B S (w.setCell ⟨B, 0, none⟩ (.slice A' n c')) A' c' L' b := by
  subst hn
  exact ⟨h.at_.set_ 0 _, hr.keep (S := [B]) ((Chg.refl _ _).setCell (.inl (by simp)) _) (fun h0 k hk hm => by
    have h1 := hb h0 k hk
    have h2 := h.ne
    simp at hm
    exact h2 (hm ▸ h1)), hc, h.chg.setCell (.inl (by simp)) _, hb, h.ne, he⟩

set_option maxHeartbeats 400000 in
theorem bad_any (B : Nat) (S : List Nat) (w0 w : World) (A : Option Addr) (c : Nat) (L : List UInt8) (b : Bool) (h : RrG 100 w0 B S w A c L b) :
    Calls Try.prog 64 #[.pointer (some ⟨B, 0, none⟩)] w fun e w' => e = .returned (.tuple #[]) ∧ RrG 100 w0 B S w' none 0 [] true := by
  have hc0 := h.at_.cell 0
  have hc1 := h.at_.cell 1
  have hf0 := h.at_.free 0
  have hf1 := h.at_.free 1
  simp only [List.getElem?_toArray, List.getElem?_cons_zero, List.getElem?_cons_succ] at hc0 hc1
  go_enter Try.func64, Try.ntmps64
  go_wp2_with (fail)
  go_end0
  refine ⟨rfl, (h.at_.set_ 0 _).set_ 1 _, Rd.nil _ _ _, Nat.le_refl _, (h.chg.setCell (.inl (by simp)) _).setCell (.inl (by simp)) _, by simp [blk], h.ne, fun _ => rfl⟩

/-- A number taken off: the number, what is left, whether it erred. -/
def takeNum (L : List UInt8) (b : Bool) : Nat × List UInt8 × Bool :=
  match dec L with
  | some (n, r) => (n, r, b)
  | none => (0, [], true)

theorem take_none {L : List UInt8} {b : Bool} (h : dec L = none) : takeNum L b = (0, [], true) := by unfold takeNum; rw [h]
theorem take_some {L r : List UInt8} {b : Bool} {n : Nat} (h : dec L = some (n, r)) : takeNum L b = (n, r, b) := by unfold takeNum; rw [h]

theorem and127 (c : UInt8) : bits .and .u8 (c.toNat : Int) 127 = ((c.toNat % 128 : Nat) : Int) := by
  rw [show (127 : Int) = ((127 : Nat) : Int) by rfl, u8_and_nat _ _ c.toNat_lt (by omega), show (127 : Nat) = 2 ^ 7 - 1 by rfl, Nat.and_two_pow_sub_one_eq_mod]
theorem or64 {x c k : Nat} (hx : x < 128 ^ k) (hk : k < 9) : bits .or .u64 (x : Int) (IntKind.u64.wrap ((c : Int) % 128 * 2 ^ (7 * k))) = ((x + c % 128 * 128 ^ k : Nat) : Int) := by
  have e : (128 : Nat) ^ k = 2 ^ (7 * k) := by rw [show (128 : Nat) = 2 ^ 7 by rfl, ← Nat.pow_mul]
  have hle : (2 : Nat) ^ (7 * k) ≤ 2 ^ 56 := Nat.pow_le_pow_right (by omega) (by omega)
  have h56 : (2 : Nat) ^ 56 = 72057594037927936 := by decide
  rw [e] at hx ⊢
  have hm : c % 128 * 2 ^ (7 * k) ≤ 127 * 2 ^ (7 * k) := Nat.mul_le_mul_right _ (by omega)
  have hw : IntKind.u64.wrap ((c : Int) % 128 * 2 ^ (7 * k)) = ((c % 128 * 2 ^ (7 * k) : Nat) : Int) := by
    have h1 : (c : Int) % 128 * 2 ^ (7 * k) = ((c % 128 * 2 ^ (7 * k) : Nat) : Int) := by simp
    rw [h1]
    generalize c % 128 * 2 ^ (7 * k) = y at *
    show ((y : Int) % 18446744073709551616) = _
    omega
  have h64 : c % 128 * 2 ^ (7 * k) < 2 ^ 64 := by have : (2 : Nat) ^ 64 = 18446744073709551616 := by decide
                                                  omega
  rw [hw, u64_or_nat _ _ (by omega) (by omega), Nat.mul_comm, Nat.or_comm, ← Nat.two_pow_add_eq_or_of_lt hx, Nat.add_comm, Nat.mul_comm]

set_option maxRecDepth 100000 in
set_option maxHeartbeats 800000 in
theorem num_any (B : Nat) (S : List Nat) (w0 w : World) (A : Option Addr) (c : Nat) (L : List UInt8) (b : Bool) (h : RrG 100 w0 B S w A c L b) (hl : L.length ≤ 1099511627776) :
    Calls Try.prog 63 #[.pointer (some ⟨B, 0, none⟩)] w fun e w' => e = .returned (.int .i64 (takeNum L b).1) ∧ ∃ A' c', RrG 100 w0 B S w' A' c' (takeNum L b).2.1 (takeNum L b).2.2 := by
  obtain ⟨i0, hi, hz0, hz1, hz2⟩ := info_parts info8
  have hc0 := h.at_.cell 0
  have hf0 := h.at_.free 0
  simp only [List.getElem?_toArray, List.getElem?_cons_zero] at hc0
  go_enter Try.func63, Try.ntmps63
  go_wp2_with (fail)
  go_loopw [13, 3] (fun i u wr => ∃ (k x : Nat), k ≤ L.length ∧ k ≤ 9 ∧ i = .int .i64 k ∧ u = .int .u64 x ∧ Hid (x < 128 ^ k) ∧ Hid (decGo L 0 0 = decGo (L.drop k) k x) ∧ Hid (wr = w)) (fun i _ _ => L.length - (intOf i).toNat)
  case atStart => exact ⟨0, 0, Nat.zero_le _, by omega, rfl, rfl, by simp [Hid], by simp [Hid], rfl⟩
  case round =>
    obtain ⟨k, x, hk, hk9, rfl, rfl, Hx, HD, HW⟩ := hrel
    obtain rfl := HW.out
    by_cases hlt : k < L.length
    · obtain ⟨ad, u, rfl, had, hu, hcc⟩ := h.rd.get hlt
      rw [cB_get hlt] at hu
      obtain rfl : Value.int .u8 (L[k].toNat : Int) = u := by simpa using hu
      clear hu
      have hb := L[k].toNat_lt
      have hdr : L.drop k = L[k] :: L.drop (k + 1) := by rw [List.drop_eq_getElem_cons hlt]
      rw [hdr] at HD
      clear hdr
      have hxk := HD.out
      simp only [decGo] at hxk
      generalize hck : L[k] = ck at *
      have Hck := Lib.hid hck
      clear hck
      have e127 := and127 ck
      by_cases h9 : 9 ≤ k
      · have Hn : Hid (takeNum L b = (0, [], true)) := take_none (by rw [dec, hxk, if_pos (.inl h9)])
        clear hxk e127
        have h9' : (9 : Int) ≤ (k : Int) := by omega
        go_wp2_with (go_at_call 64; refine (bad_any B S w0 _ _ _ _ _ h).mono ?_; rintro e w' ⟨rfl, hr'⟩)
        go_ret
        rw [Hn.out]
        exact ⟨rfl, _, _, hr'⟩
      · have h9' : (k : Int) < 9 := by omega
        by_cases h0 : 0 < k ∧ ck.toNat = 0
        · obtain ⟨hk0, hz⟩ := h0
          have hz' : ck = 0 := UInt8.toNat_inj.1 (by simpa using hz)
          have Hn : Hid (takeNum L b = (0, [], true)) := take_none (by rw [dec, hxk, if_pos (.inr ⟨hk0, hz'⟩)])
          subst hz'
          have hzb : (((0 : UInt8).toNat : Int) == 0) = true := by decide
          clear hxk e127 hz
          go_wp2_with (go_at_call 64; refine (bad_any B S w0 _ _ _ _ _ h).mono ?_; rintro e w' ⟨rfl, hr'⟩)
          go_ret
          rw [Hn.out]
          exact ⟨rfl, _, _, hr'⟩
        · have hne : ¬ (9 ≤ k ∨ 0 < k ∧ ck = 0) := by
            rintro (h1 | ⟨h1, h2⟩)
            · exact h9 h1
            · exact h0 ⟨h1, by rw [h2]; rfl⟩
          rw [if_neg hne] at hxk
          have eor := or64 (c := ck.toNat) Hx.out (by omega)
          have hmod : ck.toNat % 128 = if ck.toNat < 128 then ck.toNat else ck.toNat - 128 := by split <;> omega
          have Hy : Hid (x + ck.toNat % 128 * 128 ^ k < 128 ^ (k + 1)) := by
            have h1 := Hx.out
            have h2 : ck.toNat % 128 * 128 ^ k ≤ 127 * 128 ^ k := Nat.mul_le_mul_right _ (by omega)
            unfold Hid
            rw [Nat.pow_succ]
            omega
          rw [hmod] at Hy eor
          by_cases hlo : ck.toNat < 128
          · rw [if_pos hlo] at hxk
            rw [if_pos hlo] at Hy eor
            clear hmod
            generalize x + ck.toNat * 128 ^ k = y at *
            by_cases hy : 4611686018427387904 < y
            · rw [if_pos hy] at hxk
              have Hn : Hid (takeNum L b = (0, [], true)) := take_none (by rw [dec, hxk])
              clear hxk hne
              by_cases hk0 : 0 < k
              · have hzb : ((ck.toNat : Int) == 0) = false := by rw [beq_eq_false_iff_ne]; intro hz; exact h0 ⟨hk0, by omega⟩
                clear h0
                go_wp2_with (go_at_call 64; refine (bad_any B S w0 _ _ _ _ _ h).mono ?_; rintro e w' ⟨rfl, hr'⟩)
                go_ret
                rw [Hn.out]
                exact ⟨rfl, _, _, hr'⟩
              · clear h0
                go_wp2_with (go_at_call 64; refine (bad_any B S w0 _ _ _ _ _ h).mono ?_; rintro e w' ⟨rfl, hr'⟩)
                go_ret
                rw [Hn.out]
                exact ⟨rfl, _, _, hr'⟩
            · rw [if_neg hy] at hxk
              have Hn : Hid (takeNum L b = (y, L.drop (k + 1), b)) := take_some (by rw [dec, hxk])
              have hsl := fun w => run_slice_lo (P := Try.prog) w Try.underlying28 hi hz1 (some ad) L.length c ((k : Int) + 1) (k + 1) (by omega) (by omega)
              clear hxk hne
              by_cases hk0 : 0 < k
              · have hzb : ((ck.toNat : Int) == 0) = false := by rw [beq_eq_false_iff_ne]; intro hz; exact h0 ⟨hk0, by omega⟩
                clear h0
                go_wp2_with (fail)
                go_ret
                rw [Hn.out]
                exact ⟨rfl, _, _, h.setOf (by simp) (h.rd.dropB hlt h.cap) (by have := h.cap; simp; omega) (fun h0 => by rw [cutA_blk]; exact h.blk (by simp at h0; omega)) (by intro hb; have := h.err hb; subst this; simp)⟩
              · clear h0
                go_wp2_with (fail)
                go_ret
                rw [Hn.out]
                exact ⟨rfl, _, _, h.setOf (by simp) (h.rd.dropB hlt h.cap) (by have := h.cap; simp; omega) (fun h0 => by rw [cutA_blk]; exact h.blk (by simp at h0; omega)) (by intro hb; have := h.err hb; subst this; simp)⟩
          · rw [if_neg hlo] at hxk
            rw [if_neg hlo] at Hy eor
            clear hmod
            generalize x + (ck.toNat - 128) * 128 ^ k = y at *
            have HD' : Hid (decGo L 0 0 = decGo (L.drop (k + 1)) (k + 1) y) := hxk
            clear hxk hne
            by_cases hk0 : 0 < k
            · have hzb : ((ck.toNat : Int) == 0) = false := by rw [beq_eq_false_iff_ne]; intro hz; exact h0 ⟨hk0, by omega⟩
              clear h0
              go_wp2_with (fail)
              go_roundw
              case rel => exact ⟨k + 1, y, by omega, by omega, by go_num, rfl, Hy, HD', by simp [Hid]⟩
              case measure => simp [intOf]; omega
            · clear h0
              go_wp2_with (fail)
              go_roundw
              case rel => exact ⟨k + 1, y, by omega, by omega, by go_num, rfl, Hy, HD', by simp [Hid]⟩
              case measure => simp [intOf]; omega
    · obtain rfl : k = L.length := by omega
      have Hn : Hid (takeNum L b = (0, [], true)) := take_none (by rw [dec, HD.out]; simp [decGo])
      go_wp2_with (go_at_call 64; refine (bad_any B S w0 _ _ _ _ _ h).mono ?_; rintro e w' ⟨rfl, hr'⟩)
      go_ret
      rw [Hn.out]
      exact ⟨rfl, _, _, hr'⟩
end Go.Proofs.Ytkdbjhmffnjimaa
