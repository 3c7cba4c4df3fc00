
/-
  Several texts in one: OctR, OctR2, OctR3, OctAll.
-/
import Derived.Test.YtkdbjhmffnjimaaOctW
import Derived.Test.YtkdbjhmffnjimaaSep
namespace Go.Proofs.Ytkdbjhmffnjimaa
open Go.RowKit
attribute [local go_sem ↓] run_min2 run_max2

/-- A Reader at block B: the bytes that are left, whether it erred; its bytes lie in blocks of S; only it has changed since w0. -/
structure RrG (Ty : TypeId) (w0 : World) (B : Nat) (S : List Nat) (w : World) (A : Option Addr) (c : Nat) (rest : List UInt8) (bad : Bool) : Prop where
  at_ : At w B Ty #[.slice A rest.length c, .bool bad]
  rd : Rd w 1 A rest.length (cB rest)
  cap : rest.length ≤ c
  chg : Chg [B] w0 w
  blk : 0 < rest.length → ∀ k, k ∈ blk A → k ∈ S
  ne : B ∉ S
  err : bad = true → rest = []

theorem RrG.setOf {Ty : TypeId} {w0 : World} {B : Nat} {S : List Nat} {w : World} {A A' : Option Addr} {c c' : Nat} {L L' : List UInt8} {b : Bool} {n : Nat} (h : RrG Ty w0 B S w A c L b) (hn : n = L'.length) (hr : Rd w 1 A' L'.length (cB L')) (hc : L'.length ≤ c') (hb : 0 < L'.length → ∀ k, k ∈ Go.Proofs.Ytkdbjhmffnjimaa.blk A' → k ∈ S) (he : b = true → L' = []) :
    RrG Ty w0 B S (w.setCell ⟨B, 0, none⟩ (.slice A' n c')) A' c' L' b := by
  subst hn
  exact ⟨h.at_.set_ 0 _, hr.keep (S := [B]) ((Chg.refl _ _).setCell (.inl (by simp)) _) (fun h0 k hk hm => by
    have h1 := hb h0 k hk
    have h2 := h.ne
    simp at hm
    exact h2 (hm ▸ h1)), hc, h.chg.setCell (.inl (by simp)) _, hb, h.ne, he⟩

set_option maxHeartbeats 400000 in
theorem bad_any (B : Nat) (S : List Nat) (w0 w : World) (A : Option Addr) (c : Nat) (L : List UInt8) (b : Bool) (h : RrG 100 w0 B S w A c L b) :
    Calls Try.prog 64 #[.pointer (some ⟨B, 0, none⟩)] w fun e w' => e = .returned (.tuple #[]) ∧ RrG 100 w0 B S w' none 0 [] true := by
  have hc0 := h.at_.cell 0
  have hc1 := h.at_.cell 1
  have hf0 := h.at_.free 0
  have hf1 := h.at_.free 1
  simp only [List.getElem?_toArray, List.getElem?_cons_zero, List.getElem?_cons_succ] at hc0 hc1
  go_enter Try.func64, Try.ntmps64
  go_wp2_with (fail)
  go_end0
  refine ⟨rfl, (h.at_.set_ 0 _).set_ 1 _, Rd.nil _ _ _, Nat.le_refl _, (h.chg.setCell (.inl (by simp)) _).setCell (.inl (by simp)) _, by simp [blk], h.ne, fun _ => rfl⟩

/-- A number taken off: the number, what is left, whether it erred. -/
def takeNum (L : List UInt8) (b : Bool) : Nat × List UInt8 × Bool :=
  match dec L with
  | some (n, r) => (n, r, b)
  | none => (0, [], true)

theorem take_none {L : List UInt8} {b : Bool} (h : dec L = none) : takeNum L b = (0, [], true) := by unfold takeNum; rw [h]
theorem take_some {L r : List UInt8} {b : Bool} {n : Nat} (h : dec L = some (n, r)) : takeNum L b = (n, r, b) := by unfold takeNum; rw [h]

theorem and127 (c : UInt8) : bits .and .u8 (c.toNat : Int) 127 = ((c.toNat % 128 : Nat) : Int) := by
  rw [show (127 : Int) = ((127 : Nat) : Int) by rfl, u8_and_nat _ _ c.toNat_lt (by omega), show (127 : Nat) = 2 ^ 7 - 1 by rfl, Nat.and_two_pow_sub_one_eq_mod]
theorem or64 {x c k : Nat} (hx : x < 128 ^ k) (hk : k < 9) : bits .or .u64 (x : Int) (IntKind.u64.wrap ((c : Int) % 128 * 2 ^ (7 * k))) = ((x + c % 128 * 128 ^ k : Nat) : Int) := by
  have e : (128 : Nat) ^ k = 2 ^ (7 * k) := by rw [show (128 : Nat) = 2 ^ 7 by rfl, ← Nat.pow_mul]
  have hle : (2 : Nat) ^ (7 * k) ≤ 2 ^ 56 := Nat.pow_le_pow_right (by omega) (by omega)
  have h56 : (2 : Nat) ^ 56 = 72057594037927936 := by decide
  rw [e] at hx ⊢
  have hm : c % 128 * 2 ^ (7 * k) ≤ 127 * 2 ^ (7 * k) := Nat.mul_le_mul_right _ (by omega)
  have hw : IntKind.u64.wrap ((c : Int) % 128 * 2 ^ (7 * k)) = ((c % 128 * 2 ^ (7 * k) : Nat) : Int) := by
    have h1 : (c : Int) % 128 * 2 ^ (7 * k) = ((c % 128 * 2 ^ (7 * k) : Nat) : Int) := by simp
    rw [h1]
    generalize c % 128 * 2 ^ (7 * k) = y at *
    show ((y : Int) % 18446744073709551616) = _
    omega
  have h64 : c % 128 * 2 ^ (7 * k) < 2 ^ 64 := by have : (2 : Nat) ^ 64 = 18446744073709551616 := by decide
                                                  omega
  rw [hw, u64_or_nat _ _ (by omega) (by omega), Nat.mul_comm, Nat.or_comm, ← Nat.two_pow_add_eq_or_of_lt hx, Nat.add_comm, Nat.mul_comm]

set_option maxRecDepth 100000 in
set_option maxHeartbeats 800000 in
theorem num_any (B : Nat) (S : List Nat) (w0 w : World) (A : Option Addr) (c : Nat) (L : List UInt8) (b : Bool) (h : RrG 100 w0 B S w A c L b) (hl : L.length ≤ 1099511627776) :
    Calls Try.prog 63 #[.pointer (some ⟨B, 0, none⟩)] w fun e w' => e = .returned (.int .i64 (takeNum L b).1) ∧ ∃ A' c', RrG 100 w0 B S w' A' c' (takeNum L b).2.1 (takeNum L b).2.2 := by
  obtain ⟨i0, hi, hz0, hz1, hz2⟩ := info_parts info8
  have hc0 := h.at_.cell 0
  have hf0 := h.at_.free 0
  simp only [List.getElem?_toArray, List.getElem?_cons_zero] at hc0
  go_enter Try.func63, Try.ntmps63
  go_wp2_with (fail)
  go_loopw [13, 3] (fun i u wr => ∃ (k x : Nat), k ≤ L.length ∧ k ≤ 9 ∧ i = .int .i64 k ∧ u = .int .u64 x ∧ Hid (x < 128 ^ k) ∧ Hid (decGo L 0 0 = decGo (L.drop k) k x) ∧ Hid (wr = w)) (fun i _ _ => L.length - (intOf i).toNat)
  case atStart => exact ⟨0, 0, Nat.zero_le _, by omega, rfl, rfl, by simp [Hid], by simp [Hid], rfl⟩
  case round =>
    obtain ⟨k, x, hk, hk9, rfl, rfl, Hx, HD, HW⟩ := hrel
    obtain rfl := HW.out
    by_cases hlt : k < L.length
    · obtain ⟨ad, u, rfl, had, hu, hcc⟩ := h.rd.get hlt
      rw [cB_get hlt] at hu
      obtain rfl : Value.int .u8 (L[k].toNat : Int) = u := by simpa using hu
      clear hu
      have hb := L[k].toNat_lt
      have hdr : L.drop k = L[k] :: L.drop (k + 1) := by rw [List.drop_eq_getElem_cons hlt]
      rw [hdr] at HD
      clear hdr
      have hxk := HD.out
      simp only [decGo] at hxk
      generalize hck : L[k] = ck at *
      have Hck := Lib.hid hck
      clear hck
      have e127 := and127 ck
      by_cases h9 : 9 ≤ k
      · have Hn : Hid (takeNum L b = (0, [], true)) := take_none (by rw [dec, hxk, if_pos (.inl h9)])
        clear hxk e127
        have h9' : (9 : Int) ≤ (k : Int) := by omega
        go_wp2_with (go_at_call 64; refine (bad_any B S w0 _ _ _ _ _ h).mono ?_; rintro e w' ⟨rfl, hr'⟩)
        go_ret
        rw [Hn.out]
        exact ⟨rfl, _, _, hr'⟩
      · have h9' : (k : Int) < 9 := by omega
        by_cases h0 : 0 < k ∧ ck.toNat = 0
        · obtain ⟨hk0, hz⟩ := h0
          have hz' : ck = 0 := UInt8.toNat_inj.1 (by simpa using hz)
          have Hn : Hid (takeNum L b = (0, [], true)) := take_none (by rw [dec, hxk, if_pos (.inr ⟨hk0, hz'⟩)])
          subst hz'
          have hzb : (((0 : UInt8).toNat : Int) == 0) = true := by decide
          clear hxk e127 hz
          go_wp2_with (go_at_call 64; refine (bad_any B S w0 _ _ _ _ _ h).mono ?_; rintro e w' ⟨rfl, hr'⟩)
          go_ret
          rw [Hn.out]
          exact ⟨rfl, _, _, hr'⟩
        · have hne : ¬ (9 ≤ k ∨ 0 < k ∧ ck = 0) := by
            rintro (h1 | ⟨h1, h2⟩)
            · exact h9 h1
            · exact h0 ⟨h1, by rw [h2]; rfl⟩
          rw [if_neg hne] at hxk
          have eor := or64 (c := ck.toNat) Hx.out (by omega)
          have hmod : ck.toNat % 128 = if ck.toNat < 128 then ck.toNat else ck.toNat - 128 := by split <;> omega
          have Hy : Hid (x + ck.toNat % 128 * 128 ^ k < 128 ^ (k + 1)) := by
            have h1 := Hx.out
            have h2 : ck.toNat % 128 * 128 ^ k ≤ 127 * 128 ^ k := Nat.mul_le_mul_right _ (by omega)
            unfold Hid
            rw [Nat.pow_succ]
            omega
          rw [hmod] at Hy eor
          by_cases hlo : ck.toNat < 128
          · rw [if_pos hlo] at hxk
            rw [if_pos hlo] at Hy eor
            clear hmod
            generalize x + ck.toNat * 128 ^ k = y at *
            by_cases hy : 4611686018427387904 < y
            · rw [if_pos hy] at hxk
              have Hn : Hid (takeNum L b = (0, [], true)) := take_none (by rw [dec, hxk])
              clear hxk hne
              by_cases hk0 : 0 < k
              · have hzb : ((ck.toNat : Int) == 0) = false := by rw [beq_eq_false_iff_ne]; intro hz; exact h0 ⟨hk0, by omega⟩
                clear h0
                go_wp2_with (go_at_call 64; refine (bad_any B S w0 _ _ _ _ _ h).mono ?_; rintro e w' ⟨rfl, hr'⟩)
                go_ret
                rw [Hn.out]
                exact ⟨rfl, _, _, hr'⟩
              · clear h0
                go_wp2_with (go_at_call 64; refine (bad_any B S w0 _ _ _ _ _ h).mono ?_; rintro e w' ⟨rfl, hr'⟩)
                go_ret
                rw [Hn.out]
                exact ⟨rfl, _, _, hr'⟩
            · rw [if_neg hy] at hxk
              have Hn : Hid (takeNum L b = (y, L.drop (k + 1), b)) := take_some (by rw [dec, hxk])
              have hsl := fun w => run_slice_lo (P := Try.prog) w Try.underlying28 hi hz1 (some ad) L.length c ((k : Int) + 1) (k + 1) (by omega) (by omega)
              clear hxk hne
              by_cases hk0 : 0 < k
              · have hzb : ((ck.toNat : Int) == 0) = false := by rw [beq_eq_false_iff_ne]; intro hz; exact h0 ⟨hk0, by omega⟩
                clear h0
                go_wp2_with (fail)
                go_ret
                rw [Hn.out]
                exact ⟨rfl, _, _, h.setOf (by simp) (h.rd.dropB hlt h.cap) (by have := h.cap; simp; omega) (fun h0 => by rw [cutA_blk]; exact h.blk (by simp at h0; omega)) (by intro hb; have := h.err hb; subst this; simp)⟩
              · clear h0
                go_wp2_with (fail)
                go_ret
                rw [Hn.out]
                exact ⟨rfl, _, _, h.setOf (by simp) (h.rd.dropB hlt h.cap) (by have := h.cap; simp; omega) (fun h0 => by rw [cutA_blk]; exact h.blk (by simp at h0; omega)) (by intro hb; have := h.err hb; subst this; simp)⟩
          · rw [if_neg hlo] at hxk
            rw [if_neg hlo] at Hy eor
            clear hmod
            generalize x + (ck.toNat - 128) * 128 ^ k = y at *
            have HD' : Hid (decGo L 0 0 = decGo (L.drop (k + 1)) (k + 1) y) := hxk
            clear hxk hne
            by_cases hk0 : 0 < k
            · have hzb : ((ck.toNat : Int) == 0) = false := by rw [beq_eq_false_iff_ne]; intro hz; exact h0 ⟨hk0, by omega⟩
              clear h0
              go_wp2_with (fail)
              go_roundw
              case rel => exact ⟨k + 1, y, by omega, by omega, by go_num, rfl, Hy, HD', by simp [Hid]⟩
              case measure => simp [intOf]; omega
            · clear h0
              go_wp2_with (fail)
              go_roundw
              case rel => exact ⟨k + 1, y, by omega, by omega, by go_num, rfl, Hy, HD', by simp [Hid]⟩
              case measure => simp [intOf]; omega
    · obtain rfl : k = L.length := by omega
      have Hn : Hid (takeNum L b = (0, [], true)) := take_none (by rw [dec, HD.out]; simp [decGo])
      go_wp2_with (go_at_call 64; refine (bad_any B S w0 _ _ _ _ _ h).mono ?_; rintro e w' ⟨rfl, hr'⟩)
      go_ret
      rw [Hn.out]
      exact ⟨rfl, _, _, hr'⟩
end Go.Proofs.Ytkdbjhmffnjimaa
namespace Go.Proofs.Ytkdbjhmffnjimaa
open Go.RowKit
attribute [local go_sem ↓] run_min2 run_max2

theorem RrG.keep {Ty : TypeId} {w0 : World} {B : Nat} {S : List Nat} {w w' : World} {A : Option Addr} {c : Nat} {L : List UInt8} {b : Bool} (h : RrG Ty w0 B S w A c L b) {T : List Nat} (hc : Chg T w w')
    (hT : ∀ k, k ∈ T → k ≠ B ∧ k ∉ S ∧ w0.heap.size ≤ k) : RrG Ty w0 B S w' A c L b :=
  ⟨h.at_.keep hc (fun hm => (hT B hm).1 rfl), h.rd.keep hc (fun h0 k hk hm => (hT k hm).2.1 (h.blk h0 k hk)), h.cap, h.chg.trans hc (fun k hk => .inr (hT k hk).2.2), h.blk, h.ne, h.err⟩
theorem RrG.here {Ty : TypeId} {w0 : World} {B : Nat} {S : List Nat} {w : World} {A : Option Addr} {c : Nat} {L : List UInt8} {b : Bool} (h : RrG Ty w0 B S w A c L b) : RrG Ty w B S w A c L b :=
  ⟨h.at_, h.rd, h.cap, Chg.refl _ _, h.blk, h.ne, h.err⟩
theorem RrG.trans {Ty : TypeId} {w0 : World} {B : Nat} {S : List Nat} {w w' : World} {A A' : Option Addr} {c c' : Nat} {L L' : List UInt8} {b b' : Bool} (h : RrG Ty w0 B S w A c L b) (k : RrG Ty w B S w' A' c' L' b') : RrG Ty w0 B S w' A' c' L' b' :=
  ⟨k.at_, k.rd, k.cap, h.chg.trans k.chg (fun _ hx => .inl hx), k.blk, k.ne, k.err⟩
theorem RrG.keep0 {Ty : TypeId} {w0 : World} {B : Nat} {S : List Nat} {w w' : World} {A : Option Addr} {c : Nat} {L : List UInt8} {b : Bool} (h : RrG Ty w0 B S w A c L b) (hc : Chg [] w w') : RrG Ty w0 B S w' A c L b :=
  h.keep hc (by simp)

/-- So many bytes taken off. -/
def takeRaw (L : List UInt8) (b : Bool) (n : Int) : List UInt8 × List UInt8 × Bool :=
  if 0 ≤ n ∧ n ≤ (L.length : Int) then (L.take n.toNat, L.drop n.toNat, b) else ([], [], true)

set_option maxHeartbeats 800000 in
theorem rraw_any (B : Nat) (S : List Nat) (w0 w : World) (A : Option Addr) (c : Nat) (L : List UInt8) (b : Bool) (n : Int) (h : RrG 100 w0 B S w A c L b) (hl : L.length ≤ 1099511627776) :
    Calls Try.prog 36 #[.pointer (some ⟨B, 0, none⟩), .int .i64 n] w fun e w' => ∃ A2 c2, e = .returned (.slice A2 (takeRaw L b n).1.length c2) ∧
      w'.ownsRow w.heap.size 5 1 (.slice A2 (takeRaw L b n).1.length c2) (takeRaw L b n).1.length (cB (takeRaw L b n).1) ∧ ∃ A' c', RrG 100 w0 B S w' A' c' (takeRaw L b n).2.1 (takeRaw L b n).2.2 := by
  obtain ⟨i0, hi, hz0, hz1, hz2⟩ := info_parts info8
  have hc0 := h.at_.cell 0
  have hf0 := h.at_.free 0
  simp only [List.getElem?_toArray, List.getElem?_cons_zero] at hc0
  by_cases hin : 0 ≤ n ∧ n ≤ (L.length : Int)
  · have Hn : Hid (takeRaw L b n = (L.take n.toNat, L.drop n.toNat, b)) := by unfold takeRaw Hid; rw [if_pos hin]
    obtain ⟨hn0, hn1⟩ := hin
    obtain ⟨k, rfl⟩ := Int.eq_ofNat_of_zero_le hn0
    have hcap := h.cap
    have hkl : k ≤ L.length := by omega
    have hn0' : ¬ ((k : Int) < 0) := by omega
    have hn1' : ¬ ((L.length : Int) < (k : Int)) := by omega
    have hsl := fun w => run_slice_hi (P := Try.prog) w Try.underlying28 hi A L.length c (k : Int) k rfl (by omega)
    have hsl2 := fun w => run_slice_lo (P := Try.prog) w Try.underlying28 hi hz1 A L.length c (k : Int) k rfl hkl
    have Hn' : Hid (takeRaw L b (k : Int) = (L.take k, L.drop k, b)) := Hn.out
    clear Hn
    have Hk : Hid ((L.take k).length = k) := by unfold Hid; rw [List.length_take]; omega
    clear hn0 hn1
    go_enter Try.func36, Try.ntmps36
    go_wp2_with (fail)
    refine (clone_any _ A k c (L.take k) Hk.out (h.rd.takeB hkl) (by rw [Hk.out]; omega)).mono ?_
    rintro e w2 ⟨A2, c2, rfl, hown, hch⟩
    have h2 := h.keep0 hch
    have hc2 := h2.at_.cell 0
    have hf2 := h2.at_.free 0
    simp only [List.getElem?_toArray, List.getElem?_cons_zero] at hc2
    go_wp2_with (fail)
    go_ret
    rw [Hn'.out]
    have e2 : ((L.take k, L.drop k, b) : List UInt8 × List UInt8 × Bool).1.length = k := Hk.out
    have hne : ∀ j, (Value.slice A2 k c2).ownBlock = some j → j ∉ [B] := by
      intro j hj hm
      have h1 := (hown.lt j hj).1
      have h3 := h.at_.lt
      simp at hm
      omega
    refine ⟨A2, c2, by rw [e2]; rfl, ?_, _, _, h2.setOf (A' := cutA A c k 1) (L' := L.drop k) (n := L.length - k) (by simp) (h2.rd.dropB hkl hcap) (by simp; omega) (fun h0 => by rw [cutA_blk]; exact h.blk (by simp at h0; omega)) (by intro hb; have := h.err hb; subst this; simp)⟩
    rw [e2]
    exact own_keep hown ((Chg.refl [B] _).setCell (.inl (by simp)) _) hne
  · have Hn : Hid (takeRaw L b n = ([], [], true)) := by unfold takeRaw Hid; rw [if_neg hin]
    by_cases hn0 : n < 0
    · clear hin
      go_enter Try.func36, Try.ntmps36
      go_wp2_with (go_at_call 64; refine (bad_any B S w0 _ _ _ _ _ h).mono ?_; rintro e w' ⟨rfl, hr'⟩)
      go_ret
      rw [Hn.out]
      exact ⟨none, 0, rfl, World.ownsRow_nil _ _ _ _, _, _, hr'⟩
    · have hn1 : (L.length : Int) < n := by omega
      have hn0' : 0 ≤ n := by omega
      clear hin hn0
      go_enter Try.func36, Try.ntmps36
      go_wp2_with (go_at_call 64; refine (bad_any B S w0 _ _ _ _ _ h).mono ?_; rintro e w' ⟨rfl, hr'⟩)
      go_ret
      rw [Hn.out]
      exact ⟨none, 0, rfl, World.ownsRow_nil _ _ _ _, _, _, hr'⟩

/-- A row taken off. -/
def takeRow (L : List UInt8) (b : Bool) : List UInt8 × List UInt8 × Bool := takeRaw (takeNum L b).2.1 (takeNum L b).2.2 ((takeNum L b).1 : Int)
theorem takeNum_len (L : List UInt8) (b : Bool) : (takeNum L b).2.1.length ≤ L.length := by
  unfold takeNum
  split
  · rename_i h; exact Nat.le_of_lt (dec_len h)
  · simp
theorem takeRaw_len (L : List UInt8) (b : Bool) (n : Int) : (takeRaw L b n).2.1.length ≤ L.length ∧ (takeRaw L b n).1.length ≤ L.length := by
  unfold takeRaw
  split <;> simp <;> omega

set_option maxHeartbeats 400000 in
theorem rbytes_any (B : Nat) (S : List Nat) (w0 w : World) (A : Option Addr) (c : Nat) (L : List UInt8) (b : Bool) (h : RrG 100 w0 B S w A c L b) (hl : L.length ≤ 1099511627776) :
    Calls Try.prog 66 #[.pointer (some ⟨B, 0, none⟩)] w fun e w' => ∃ A2 c2, e = .returned (.slice A2 (takeRow L b).1.length c2) ∧
      w'.ownsRow w.heap.size 5 1 (.slice A2 (takeRow L b).1.length c2) (takeRow L b).1.length (cB (takeRow L b).1) ∧ ∃ A' c', RrG 100 w0 B S w' A' c' (takeRow L b).2.1 (takeRow L b).2.2 := by
  have hlen := takeNum_len L b
  go_enter Try.func66, Try.ntmps66
  go_wp2_with (fail)
  refine (num_any B S w _ A c L b h.here hl).mono ?_
  rintro e w1 ⟨rfl, A1, c1, h1⟩
  go_wp2_with (fail)
  refine (rraw_any B S w _ A1 c1 _ _ _ h1 (by omega)).mono ?_
  rintro e w2 ⟨A2, c2, rfl, hown, A3, c3, h2⟩
  go_wp2_with (fail)
  go_ret
  have hsz := h1.chg.size
  exact ⟨A2, c2, rfl, own_base hown (fun k hk => Nat.le_trans hsz (hown.lt k hk).1), A3, c3, h.trans h2⟩

set_option maxHeartbeats 400000 in
theorem left_any (B : Nat) (S : List Nat) (w0 w : World) (A : Option Addr) (c : Nat) (L : List UInt8) (b : Bool) (h : RrG 100 w0 B S w A c L b) :
    Calls Try.prog 37 #[.pointer (some ⟨B, 0, none⟩)] w fun e w' => e = .returned (.int .i64 L.length) ∧ w = w' := by
  have hc0 := h.at_.cell 0
  simp only [List.getElem?_toArray, List.getElem?_cons_zero] at hc0
  go_enter Try.func37, Try.ntmps37
  go_wp2_with (fail)
  go_ret
  exact ⟨rfl, rfl⟩
set_option maxHeartbeats 400000 in
theorem good_any (B : Nat) (S : List Nat) (w0 w : World) (A : Option Addr) (c : Nat) (L : List UInt8) (b : Bool) (h : RrG 100 w0 B S w A c L b) :
    Calls Try.prog 67 #[.pointer (some ⟨B, 0, none⟩)] w fun e w' => e = .returned (.bool !b) ∧ w = w' := by
  have hc1 := h.at_.cell 1
  simp only [List.getElem?_toArray, List.getElem?_cons_succ, List.getElem?_cons_zero] at hc1
  go_enter Try.func67, Try.ntmps67
  go_wp2_with (fail)
  go_ret
  exact ⟨rfl, rfl⟩
theorem len0 (L : List UInt8) : ((L.length : Int) == 0) = decide (L = []) := by
  cases L
  · rfl
  · simp; omega
set_option maxHeartbeats 400000 in
theorem whole_any (B : Nat) (S : List Nat) (w0 w : World) (A : Option Addr) (c : Nat) (L : List UInt8) (b : Bool) (h : RrG 100 w0 B S w A c L b) :
    Calls Try.prog 38 #[.pointer (some ⟨B, 0, none⟩)] w fun e w' => e = .returned (.bool (!b && decide (L = []))) ∧ w = w' := by
  have hc0 := h.at_.cell 0
  simp only [List.getElem?_toArray, List.getElem?_cons_zero] at hc0
  cases b
  · go_enter Try.func38, Try.ntmps38
    go_wp2_with (go_at_call 67; refine (good_any B S w0 _ A c L _ h).mono ?_; rintro e w' ⟨rfl, rfl⟩)
    go_ret
    exact ⟨by simp [len0], rfl⟩
  · go_enter Try.func38, Try.ntmps38
    go_wp2_with (go_at_call 67; refine (good_any B S w0 _ A c L _ h).mono ?_; rintro e w' ⟨rfl, rfl⟩)
    go_ret
    exact ⟨by simp, rfl⟩

set_option maxHeartbeats 400000 in
theorem newReader_any (w : World) (A : Option Addr) (n c : Nat) (ps : List UInt8) (hn : ps.length = n) (hr : Rd w 1 A ps.length (cB ps)) (hlen : ps.length ≤ 1099511627776) :
    Calls Try.prog 33 #[.slice A n c] w fun e w' => ∃ B S A' c', e = .returned (.pointer (some ⟨B, 0, none⟩)) ∧ RrG 100 w' B S w' A' c' ps false ∧ Chg [] w w' ∧ w.heap.size ≤ B ∧ (∀ k ∈ S, w.heap.size ≤ k ∧ k < w'.heap.size) ∧ S.Nodup := by
  subst hn
  go_enter Try.func33, Try.ntmps33
  go_wp2_with (fail)
  refine (clone_any _ A ps.length c ps rfl hr hlen).mono ?_
  rintro e w2 ⟨A2, c2, rfl, hown, hch⟩
  go_wp2_with (fail)
  go_ret
  refine ⟨w2.heap.size, blk A2, A2, c2, rfl, ⟨At.new _ _ _, (Rd.of_own hown).alloc _, own_cap hown, Chg.refl _ _, fun _ _ hk => hk, ?_, by simp⟩, hch.alloc _, hch.size, ?_, by cases A2 <;> simp [blk]⟩
  · intro hm
    have := (own_in hown _ hm).2
    omega
  · intro k hk
    have := own_in hown _ hk
    simp
    omega
end Go.Proofs.Ytkdbjhmffnjimaa
namespace Go.Proofs.Ytkdbjhmffnjimaa
open Go.RowKit

/-- Behind k numbers: what is left, whether it erred. -/
def numsSt (L : List UInt8) (b : Bool) : Nat → List UInt8 × Bool
  | 0 => (L, b)
  | k + 1 => (takeNum (numsSt L b k).1 (numsSt L b k).2).2
/-- The number of that place. -/
def numAt (L : List UInt8) (b : Bool) (k : Nat) : Nat := (takeNum (numsSt L b k).1 (numsSt L b k).2).1
theorem numsSt_len (L : List UInt8) (b : Bool) (k : Nat) : (numsSt L b k).1.length ≤ L.length := by
  induction k with
  | zero => exact Nat.le_refl _
  | succ k ih => exact Nat.le_trans (takeNum_len _ _) ih

/-- The cells of pointers. -/
def cP (l : List (Option Addr)) : List Value := l.map Value.pointer
theorem cP_get {l : List (Option Addr)} {k : Nat} (h : k < l.length) : (cP l)[k]? = some (.pointer l[k]) := by simp [cP, h]

set_option maxHeartbeats 800000 in
theorem rnums_any (B : Nat) (S T : List Nat) (w0 w : World) (A : Option Addr) (c : Nat) (L : List UInt8) (b : Bool) (h : RrG 100 w0 B S w A c L b) (hl : L.length ≤ 1099511627776)
    (A2 : Option Addr) (n2 c2 : Nat) (ps : List (Option Addr)) (hn : ps.length = n2) (hr : Rd w 1 A2 ps.length (cP ps)) (hps : ps.length ≤ 1099511627776) (hA : Away A2 ps.length (B :: T))
    (hT : ∀ k, k ∈ T → k ≠ B ∧ k ∉ S) (hpT : ∀ ad, some ad ∈ ps → ad.block ∈ T)
    (I : Nat → World → Prop) (hI0 : I 0 w) (hIk : ∀ k w1 w2, I k w1 → Chg [B] w1 w2 → I k w2)
    (hIn : ∀ k w1, ps[k]? = some none → I k w1 → I (k + 1) w1)
    (hIs : ∀ k w1 ad, ps[k]? = some (some ad) → I k w1 → (∃ old, w1.cell? ad = some old) ∧ w1.frozen? ad = false ∧ I (k + 1) (w1.setCell ad (.int .i64 (numAt L b k)))) :
    Calls Try.prog 34 #[.pointer (some ⟨B, 0, none⟩), .slice A2 n2 c2] w fun e w' => e = .returned (.tuple #[]) ∧ I ps.length w' ∧ Chg (B :: T) w w' ∧
      ∃ A' c', RrG 100 w' B S w' A' c' (numsSt L b ps.length).1 (numsSt L b ps.length).2 := by
  subst hn
  have HI0 := Lib.hid hI0
  have HIk := Lib.hid hIk
  have HIn := Lib.hid hIn
  have HIs := Lib.hid hIs
  have HT := Lib.hid hT
  have HpT := Lib.hid hpT
  have HA := Lib.hid hA
  clear hI0 hIk hIn hIs hT hpT hA
  go_enter Try.func34, Try.ntmps34
  go_wp2_with (fail)
  go_loopw [9] (fun i wr => ∃ (k : Nat) (A' : Option Addr) (c' : Nat), k ≤ ps.length ∧ i = .int .i64 k ∧ Hid (I k wr) ∧ Chg (B :: T) w wr ∧ RrG 100 wr B S wr A' c' (numsSt L b k).1 (numsSt L b k).2) (fun i _ => ps.length - (intOf i).toNat)
  case atStart => exact ⟨0, A, c, Nat.zero_le _, rfl, HI0.out, Chg.refl _ _, h.here⟩
  case round =>
    obtain ⟨k, A1, c1, hk, rfl, HI, hch, hw1⟩ := hrel
    by_cases hlt : k < ps.length
    · have hr1 := hr.keep hch HA.out
      obtain ⟨ad, u, rfl, had, hu, hc⟩ := hr1.get hlt
      rw [cP_get hlt] at hu
      have Hlen := Lib.hid (numsSt_len L b k)
      have Hg : Hid (ps[k]? = some ps[k]) := List.getElem?_eq_getElem hlt
      have Hmem : Hid (ps[k] ∈ ps) := List.getElem_mem hlt
      generalize ps[k] = p at *
      obtain rfl : Value.pointer p = u := by simpa using hu
      clear hu
      have Hst : Hid ((numsSt L b (k + 1)) = (takeNum (numsSt L b k).1 (numsSt L b k).2).2) := rfl
      have Hnu : Hid (numAt L b k = (takeNum (numsSt L b k).1 (numsSt L b k).2).1) := rfl
      generalize numsSt L b k = st at *
      cases p with
      | none =>
        go_wp2_with (fail)
        refine (num_any B S wr _ A1 c1 st.1 st.2 hw1 (by have := Hlen.out; omega)).mono ?_
        rintro e w2 ⟨rfl, A3, c3, hw2⟩
        have hch2 := hw2.chg
        go_wp2_with (fail)
        go_roundw
        case rel =>
          refine ⟨k + 1, A3, c3, by omega, by go_num, HIn.out k _ Hg.out (HIk.out k _ _ HI.out hch2), hch.trans hch2 (by simp), ?_⟩
          rw [Hst.out]
          exact hw2.here
        case measure => simp [intOf]; omega
      | some pa =>
        go_wp2_with (fail)
        refine (num_any B S wr _ A1 c1 st.1 st.2 hw1 (by have := Hlen.out; omega)).mono ?_
        rintro e w2 ⟨rfl, A3, c3, hw2⟩
        have hch2 := hw2.chg
        obtain ⟨⟨old, hcell⟩, hfree, hI2⟩ := HIs.out k w2 pa Hg.out (HIk.out k _ _ HI.out hch2)
        rw [Hnu.out] at hI2
        have HI2 := Lib.hid hI2
        clear hI2
        have hpb := HpT.out pa Hmem.out
        have hpb2 := HT.out _ hpb
        go_wp2_with (fail)
        go_roundw
        case rel =>
          have hcs : Chg [pa.block] w2 (w2.setCell pa (.int .i64 ((takeNum st.1 st.2).1 : Int))) := (Chg.refl _ _).setCell (.inl (by simp)) _
          refine ⟨k + 1, A3, c3, by omega, by go_num, HI2.out, (hch.trans hch2 (by simp)).setCell (.inl (by simp [hpb])) _, ?_⟩
          rw [Hst.out]
          have h3 := hw2.here
          exact ⟨h3.at_.keep hcs (by simp; exact fun e => hpb2.1 e.symm), h3.rd.keep hcs (fun h0 j hj hm => by simp at hm; exact hpb2.2 (hm ▸ h3.blk h0 j hj)), h3.cap, Chg.refl _ _, h3.blk, h3.ne, h3.err⟩
        case measure => simp [intOf]; omega
    · obtain rfl : k = ps.length := by omega
      go_wp2_with (fail)
      go_end0
      exact ⟨rfl, HI.out, hch, A1, c1, hw1⟩

set_option maxHeartbeats 400000 in
theorem rbad_nil (w : World) : Calls Try.prog 64 #[.pointer none] w fun e w' => e = .returned (.tuple #[]) ∧ w = w' := by
  go_enter Try.func64, Try.ntmps64
  go_wp2_with (fail)
  go_end0
  exact ⟨rfl, rfl⟩
set_option maxHeartbeats 400000 in
theorem rnum_nil (w : World) : Calls Try.prog 63 #[.pointer none] w fun e w' => e = .returned (.int .i64 0) ∧ w = w' := by
  go_enter Try.func63, Try.ntmps63
  go_wp2_with (fail)
  go_ret
  exact ⟨rfl, rfl⟩
set_option maxHeartbeats 400000 in
theorem rraw_nil (n : Int) (w : World) : Calls Try.prog 36 #[.pointer none, .int .i64 n] w fun e w' => e = .returned (.slice none 0 0) ∧ w = w' := by
  go_enter Try.func36, Try.ntmps36
  go_wp2_with (go_at_call 64; refine (rbad_nil _).mono ?_; rintro e w' ⟨rfl, rfl⟩)
  go_ret
  exact ⟨rfl, rfl⟩
set_option maxHeartbeats 400000 in
theorem rbytes_nil (w : World) : Calls Try.prog 66 #[.pointer none] w fun e w' => e = .returned (.slice none 0 0) ∧ w = w' := by
  go_enter Try.func66, Try.ntmps66
  go_wp2_with (first | (go_at_call 63; refine (rnum_nil _).mono ?_; rintro e w' ⟨rfl, rfl⟩) | (go_at_call 36; refine (rraw_nil _ _).mono ?_; rintro e w' ⟨rfl, rfl⟩))
  go_ret
  exact ⟨rfl, rfl⟩
set_option maxHeartbeats 400000 in
theorem rleft_nil (w : World) : Calls Try.prog 37 #[.pointer none] w fun e w' => e = .returned (.int .i64 0) ∧ w = w' := by
  go_enter Try.func37, Try.ntmps37
  go_wp2_with (fail)
  go_ret
  exact ⟨rfl, rfl⟩
set_option maxHeartbeats 400000 in
theorem rgood_nil (w : World) : Calls Try.prog 67 #[.pointer none] w fun e w' => e = .returned (.bool false) ∧ w = w' := by
  go_enter Try.func67, Try.ntmps67
  go_wp2_with (fail)
  go_ret
  exact ⟨rfl, rfl⟩
set_option maxHeartbeats 400000 in
theorem rwhole_nil (w : World) : Calls Try.prog 38 #[.pointer none] w fun e w' => e = .returned (.bool false) ∧ w = w' := by
  go_enter Try.func38, Try.ntmps38
  go_wp2_with (go_at_call 67; refine (rgood_nil _).mono ?_; rintro e w' ⟨rfl, rfl⟩)
  go_ret
  exact ⟨rfl, rfl⟩
end Go.Proofs.Ytkdbjhmffnjimaa
namespace Go.Proofs.Ytkdbjhmffnjimaa
open Go.RowKit

def rWr (B : Nat) (A : Option Addr) (c : Nat) (bs : List UInt8) : Res := ⟨B :: blk A, fun w => Wr w B (blk A) w A c bs⟩
theorem rWr_stable (w0 : World) (B : Nat) (A : Option Addr) (c : Nat) (bs : List UInt8) : Stable w0 (rWr B A c bs) := fun _ _ h _ hk =>
  ⟨h.at_.stable (hk B h.at_.lt (.inl (by simp [rWr]))), own_stable h.own (fun b hb hm => hk b hb (.inl (List.mem_cons_of_mem _ hm))), Chg.refl _ _, fun _ hx => .inl hx⟩
theorem wr_nodup {w : World} {B : Nat} {A : Option Addr} {c : Nat} {bs : List UInt8} {w0 : World} {S : List Nat} (h : Wr w0 B S w A c bs) : (B :: blk A).Nodup := by
  refine List.nodup_cons.2 ⟨fun hm => ?_, blk_nodup A⟩
  exact own_at_ne h.own h.at_ (by decide) B (ob A bs.length c B hm) rfl

section
variable {w0 w w' : World} {rs : List Res} {B : Nat} {A A' : Option Addr} {c c' : Nat} {bs bs' : List UInt8}
/-- A Writer has been written to. -/
theorem All.wr (h : All w0 w (rWr B A c bs :: rs)) (k : Wr w B (blk A) w' A' c' bs') : All w0 w' (rWr B A' c' bs' :: rs) :=
  h.head k.chg _ (fun b hb => by
    rcases List.mem_cons.1 hb with rfl | hb
    · exact ⟨.inl (by simp [rWr]), k.at_.lt⟩
    · refine ⟨?_, (own_in k.own b hb).2⟩
      rcases k.blk b hb with h1 | h1
      · exact .inl (List.mem_cons_of_mem _ h1)
      · exact .inr h1) (wr_nodup k) k.here (rWr_stable _ _ _ _ _)
/-- A new Writer. -/
theorem All.newWr (h : All w0 w rs) (hB : B = w.heap.size) : All w0 (w.alloc (.cells #[.slice none 0 0] 55)) (rWr B none 0 [] :: rs) := by
  subst hB
  exact h.new ((Chg.refl _ _).alloc _) _ (fun b hb => by simp [rWr, blk] at hb; subst hb; simp) (by simp [rWr, blk]) (Wr.new w).here (rWr_stable _ _ _ _ _)
end

def rRdr (T : TypeId) (B : Nat) (S : List Nat) (A : Option Addr) (c : Nat) (L : List UInt8) (b : Bool) : Res := ⟨B :: S, fun w => RrG T w B S w A c L b ∧ S.Nodup ∧ ∀ k ∈ S, k < w.heap.size⟩
theorem rRdr_stable (w0 : World) (T : TypeId) (B : Nat) (S : List Nat) (A : Option Addr) (c : Nat) (L : List UInt8) (b : Bool) : Stable w0 (rRdr T B S A c L b) := fun _ _ h hs hk =>
  ⟨⟨h.1.at_.stable (hk B h.1.at_.lt (.inl (by simp [rRdr]))), h.1.rd.stable' hs (fun h0 x hx hm => hk x hx (.inl (List.mem_cons_of_mem _ (h.1.blk h0 x hm)))), h.1.cap, Chg.refl _ _, h.1.blk, h.1.ne, h.1.err⟩, h.2.1, fun k hm => Nat.lt_of_lt_of_le (h.2.2 k hm) hs⟩

section
variable {w0 w w' : World} {rs : List Res} {T : TypeId} {B : Nat} {S : List Nat} {A A' : Option Addr} {c c' : Nat} {L L' : List UInt8} {b b' : Bool}
/-- A Reader has been taken from. -/
theorem All.rdr (h : All w0 w (rRdr T B S A c L b :: rs)) (k : RrG T w B S w' A' c' L' b') : All w0 w' (rRdr T B S A' c' L' b' :: rs) := by
  obtain ⟨h1, h2, h3⟩ := h.get 0 rfl
  have hs := k.chg.size
  have hr := h.rng 0 rfl
  refine h.head (k.chg.mono (fun x hx => .inl (by simp at hx; subst hx; simp [rRdr]))) _ (fun x hx => ⟨.inl hx, Nat.lt_of_lt_of_le (hr x hx).2 hs⟩) ?_ ⟨k.here, h2, fun x hx => Nat.lt_of_lt_of_le (h3 x hx) hs⟩ (rRdr_stable _ _ _ _ _ _ _ _)
  exact List.nodup_cons.2 ⟨h1.ne, h2⟩
/-- A Reader has been taken a row from. -/
theorem All.rdrRow (h : All w0 w (rRdr T B S A c L b :: rs)) (k : RrG T w B S w' A' c' L' b') {e : TypeId} {A2 : Option Addr} {n c2 : Nat} {xs : List Value} (ho : w'.ownsRow w.heap.size e 1 (.slice A2 n c2) n xs) : All w0 w' (rRow 0 e A2 n c2 xs :: rRdr T B S A' c' L' b' :: rs) := by
  refine (h.rdr k).insert w.heap.size h.chg.size (fun r hr x hx => ?_) _ (fun x hx => own_in ho x hx) (blk_nodup A2) (own_base ho (fun _ _ => Nat.zero_le _)) (rRow_stable _ _ _ _ _ _ _)
  rcases List.mem_cons.1 hr with rfl | hr
  · exact (h.range (rRdr T B S A c L b) (by simp) x hx).2
  · exact (h.range r (List.mem_cons_of_mem _ hr) x hx).2
/-- A new Reader. -/
theorem All.newRdr (h : All w0 w rs) (k : RrG T w' B S w' A c L b) (hc : Chg [] w w') (hB : w.heap.size ≤ B) (hS : ∀ x ∈ S, w.heap.size ≤ x ∧ x < w'.heap.size) (hn : S.Nodup) : All w0 w' (rRdr T B S A c L b :: rs) :=
  h.new hc _ (fun x hx => by
    rcases List.mem_cons.1 hx with rfl | hx
    · exact ⟨hB, k.at_.lt⟩
    · exact hS x hx) (List.nodup_cons.2 ⟨k.ne, hn⟩) ⟨k, hn, fun x hx => (hS x hx).2⟩ (rRdr_stable _ _ _ _ _ _ _ _)
end

section
variable {w0 w w' : World} {rs : List Res} {A A' : Option Addr} {e : TypeId} {base n m c c' : Nat} {xs ys : List Value}
/-- A row has been appended to. -/
theorem All.grown (h : All w0 w (rRow base e A n c xs :: rs)) (hg : w.grownBy w' (Value.slice A n c).ownBlock) (hb : blk A' = (Value.slice A n c).ownBlock.toList ∨ blk A' = [w.heap.size]) (ho : w'.ownsRow base e 1 (.slice A' m c') m ys) : All w0 w' (rRow base e A' m c' ys :: rs) :=
  h.head ((Chg.of_grown hg).mono (fun x hx => .inl (by rw [own_blk] at hx; exact hx))) _ (fun x hx => ⟨by
    rcases hb with h1 | h1
    · exact .inl (by rw [own_blk] at h1; show x ∈ blk A; rw [← h1]; exact hx)
    · refine .inr ?_
      have hx' : x ∈ blk A' := hx
      rw [h1] at hx'; simp at hx'; omega, (own_in ho x hx).2⟩) (blk_nodup A') ho (rRow_stable _ _ _ _ _ _ _)
end
end Go.Proofs.Ytkdbjhmffnjimaa
