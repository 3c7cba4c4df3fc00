
/-
  The reference's Reader (chapter 1): what each method does.
-/
import Derived.Test.YtlccjdcmhfhoeaaRef1
import Derived.Test.YtlccjdcmhfhoeaaOctR2
namespace Go.Proofs.Ytlccjdcmhfhoeaa
open Go.RowKit

set_option maxHeartbeats 400000 in
theorem fbad_any (B : Nat) (S : List Nat) (w0 w : World) (A : Option Addr) (c : Nat) (L : List UInt8) (b : Bool) (h : RrG 73 w0 B S w A c L b) :
    Calls Try.prog 48 #[.pointer (some ⟨B, 0, none⟩)] w fun e w' => e = .returned (.tuple #[]) ∧ RrG 73 w0 B S w' none 0 [] true := by
  have hc0 := h.at_.cell 0
  have hc1 := h.at_.cell 1
  have hf0 := h.at_.free 0
  have hf1 := h.at_.free 1
  simp only [List.getElem?_toArray, List.getElem?_cons_zero, List.getElem?_cons_succ] at hc0 hc1
  go_enter Try.func48, Try.ntmps48
  go_wp2_with (fail)
  go_end0
  refine ⟨rfl, ?_, Rd.nil _ _ _, Nat.le_refl _, (h.chg.setCell (.inl (by simp)) _).setCell (.inl (by simp)) _, by simp [blk], h.ne, fun _ => rfl⟩
  exact (h.at_.set_ 1 _).set_ 0 _

set_option maxHeartbeats 800000 in
theorem fraw_any (B : Nat) (S : List Nat) (w0 w : World) (A : Option Addr) (c : Nat) (L : List UInt8) (b : Bool) (n : Int) (h : RrG 73 w0 B S w A c L b) (hl : L.length ≤ 1099511627776) :
    Calls Try.prog 56 #[.pointer (some ⟨B, 0, none⟩), .int .i64 n] w fun e w' => ∃ A2 c2, e = .returned (.slice A2 (takeRaw L b n).1.length c2) ∧
      w'.ownsRow w.heap.size 5 1 (.slice A2 (takeRaw L b n).1.length c2) (takeRaw L b n).1.length (cB (takeRaw L b n).1) ∧ ∃ A' c', RrG 73 w0 B S w' A' c' (takeRaw L b n).2.1 (takeRaw L b n).2.2 := by
  obtain ⟨i0, hi, hz0, hz1, hz2⟩ := info_parts info8
  have hc0 := h.at_.cell 0
  have hc1 := h.at_.cell 1
  have hf0 := h.at_.free 0
  simp only [List.getElem?_toArray, List.getElem?_cons_zero, List.getElem?_cons_succ] at hc0 hc1
  by_cases hin : 0 ≤ n ∧ n ≤ (L.length : Int)
  · obtain ⟨hn0, hn1⟩ := hin
    obtain ⟨k, rfl⟩ := Int.eq_ofNat_of_zero_le hn0
    have hcap := h.cap
    have hkl : k ≤ L.length := by omega
    have Hn : Hid (takeRaw L b (k : Int) = (L.take k, L.drop k, b)) := by unfold takeRaw Hid; rw [if_pos ⟨by omega, by omega⟩]; rfl
    have hn0' : ¬ ((k : Int) < 0) := by omega
    have hn1' : ¬ ((L.length : Int) < (k : Int)) := by omega
    clear hn0 hn1
    cases b with
    | false =>
      have hsl := fun w => run_slice_hi (P := Try.prog) w Try.underlying24 hi A L.length c (k : Int) k rfl (by omega)
      have hsl2 := fun w => run_slice_lo (P := Try.prog) w Try.underlying24 hi hz1 A L.length c (k : Int) k rfl hkl
      have Hk : Hid ((L.take k).length = k) := by unfold Hid; rw [List.length_take]; omega
      have hrk : Rd w 1 A k (cB (L.take k)) := by have := h.rd.takeB hkl; rw [Hk.out] at this; exact this
      have hB := h.at_.lt
      go_enter Try.func56, Try.ntmps56
      go_wp2_with (at_builtin; refine wpList_append_rd _ rfl (.tmp 23) (.tmp 29) 24 (by rfl) w.heap.size 5 i0 _ 1 1 Try.underlying24 hi hz0 hz1 hz2 rfl (by omega) (.slice (some ⟨w.heap.size, 0, none⟩) 0 0) 0 [] (by rfl) (World.ownsRow_made w #[] 0 (Nat.le_refl _) (by simp [maxLen]) rfl) A k c (cB (L.take k)) (by rfl) (hrk.alloc _) (cB_one _) (by unfold maxLen; omega) (by omega) (by simp) ?_; intro A3 c3 w3 hown3 hg3 hb3; have hch3 : Chg [] w w3 := ((Chg.refl [] w).alloc _).grown hg3 (fun k hk => .inr (by simp [Value.ownBlock] at hk; omega)); have h3 := h.keep0 hch3; have hc3 := h3.at_.cell 0; have hf3 := h3.at_.free 0; simp only [List.getElem?_toArray, List.getElem?_cons_zero] at hc3)
      go_ret
      rw [Hn.out]
      have e2 : ((L.take k, L.drop k, false) : List UInt8 × List UInt8 × Bool).1.length = k := Hk.out
      have hne : ∀ j, (Value.slice A3 (0 + k) c3).ownBlock = some j → j ∉ [B] := by
        intro j hj hm
        have h1 := (hown3.lt j hj).1
        simp at hm
        omega
      refine ⟨A3, c3, by rw [e2]; simp, ?_, _, _, h3.setOf (A' := cutA A c k 1) (L' := L.drop k) (n := L.length - k) (by simp) (h3.rd.dropB hkl hcap) (by simp; omega) (fun h0 => by rw [cutA_blk]; exact h.blk (by simp at h0; omega)) (by intro hb; cases hb)⟩
      rw [e2]
      have h4 := own_keep hown3 ((Chg.refl [B] _).setCell (p := ⟨B, 0, none⟩) (.inl (by simp)) (.slice (cutA A c k 1) (L.length - k) (c - k))) hne
      simpa using h4
    | true =>
      have hL := h.err rfl
      subst hL
      obtain rfl : k = 0 := by simp at hkl; omega
      go_enter Try.func56, Try.ntmps56
      go_wp2_with (fail)
      go_ret
      have Hn' : takeRaw [] true 0 = ([], [], true) := Hn.out
      rw [Hn']
      exact ⟨none, 0, rfl, World.ownsRow_nil _ _ _ _, _, _, h⟩
  · have Hn : Hid (takeRaw L b n = ([], [], true)) := by unfold takeRaw Hid; rw [if_neg hin]
    have hcase : n < 0 ∨ (0 ≤ n ∧ (L.length : Int) < n) := by omega
    clear hin
    rcases hcase with hn0 | ⟨hn0, hn1⟩
    all_goals
      go_enter Try.func56, Try.ntmps56
      go_wp2_with (fail)
      refine (fbad_any B S w0 _ _ _ _ _ h).mono ?_
      rintro e w' ⟨rfl, hr'⟩
      have hc1' := hr'.at_.cell 1
      simp only [List.getElem?_toArray, List.getElem?_cons_zero, List.getElem?_cons_succ] at hc1'
      go_wp2_with (fail)
      go_ret
      rw [Hn.out]
      exact ⟨none, 0, rfl, World.ownsRow_nil _ _ _ _, _, _, hr'⟩

theorem takeRaw_one {L : List UInt8} {b : Bool} {k : Nat} (h : k < L.length) : takeRaw (L.drop k) b 1 = ([L[k]], L.drop (k + 1), b) := by
  have h1 : (L.drop k).length = L.length - k := by simp
  unfold takeRaw
  rw [if_pos ⟨by omega, by omega⟩, List.drop_eq_getElem_cons h]
  rfl
theorem takeRaw_none {L : List UInt8} {b : Bool} {k : Nat} (h : L.length ≤ k) : takeRaw (L.drop k) b 1 = ([], [], true) := by
  unfold takeRaw
  rw [if_neg (by simp; omega)]

theorem or63 {x c : Nat} (hx : x < 128 ^ 9) (hc : c % 128 = 1 ∨ (c ≠ 0 ∧ c ≤ 1)) : 4611686018427387904 < bits .or .u64 (x : Int) ((c : Int) % 128 * 9223372036854775808) := by
  have hc1 : (c : Int) % 128 = 1 := by omega
  have e : (128 : Nat) ^ 9 = 2 ^ 63 := by decide
  have e63 : (2 : Nat) ^ 63 = 9223372036854775808 := by decide
  rw [e] at hx
  rw [hc1, Int.one_mul, show (9223372036854775808 : Int) = ((9223372036854775808 : Nat) : Int) by rfl, u64_or_nat _ _ (by omega) (by omega)]
  have h := Nat.two_pow_add_eq_or_of_lt hx 1
  rw [Nat.mul_one, e63, Nat.or_comm] at h
  rw [← h]
  omega

set_option maxRecDepth 100000 in
set_option maxHeartbeats 1600000 in
theorem fnum_any (B : Nat) (S : List Nat) (w0 w : World) (A : Option Addr) (c : Nat) (L : List UInt8) (b : Bool) (h : RrG 73 w0 B S w A c L b) (hl : L.length ≤ 1099511627776) :
    Calls Try.prog 43 #[.pointer (some ⟨B, 0, none⟩)] w fun e w' => e = .returned (.int .i64 (takeNum L b).1) ∧ ∃ A' c', RrG 73 w0 B S w' A' c' (takeNum L b).2.1 (takeNum L b).2.2 := by
  go_enter Try.func43, Try.ntmps43
  go_wp2_with (fail)
  go_loopw [4, 3] (fun i u wr => ∃ (k x : Nat) (A' : Option Addr) (c' : Nat), k ≤ 9 ∧ i = .int .i64 k ∧ u = .int .u64 x ∧ Hid (x < 128 ^ k) ∧ Hid (decGo L 0 0 = decGo (L.drop k) k x) ∧ RrG 73 w0 B S wr A' c' (L.drop k) b) (fun i _ _ => 10 - (intOf i).toNat)
  case atStart => exact ⟨0, 0, A, c, by omega, rfl, rfl, by simp [Hid], by simp [Hid], by simpa using h⟩
  case round =>
    obtain ⟨k, x, A1, c1, hk9, rfl, rfl, Hx, HD, hw1⟩ := hrel
    have hk9' : (k : Int) < 10 := by omega
    go_wp2_with (fail)
    refine (fraw_any B S w0 _ A1 c1 (L.drop k) b 1 hw1 (by simp; omega)).mono ?_
    by_cases hlt : k < L.length
    · have hdr : L.drop k = L[k] :: L.drop (k + 1) := by rw [List.drop_eq_getElem_cons hlt]
      rw [takeRaw_one hlt]
      rw [hdr] at HD
      clear hdr
      rintro e w2 ⟨A2, c2, rfl, hown, A3, c3, h2⟩
      have hxk := HD.out
      simp only [decGo] at hxk
      have hb := L[k].toNat_lt
      have Hbe : Hid (b = false) := by
        cases b
        · rfl
        · have := hw1.err rfl
          have h3 := congrArg List.length this
          simp at h3
          omega
      obtain ⟨g, rfl, hg0, hg1, hcell, _⟩ := own_cells hown (by simp)
      have hce := hcell 0 _ rfl
      clear hcell
      generalize hck : L[k] = ck at *
      clear hck
      obtain rfl := Hbe.out
      have hc1 := h2.at_.cell 1
      simp only [List.getElem?_toArray, List.getElem?_cons_zero, List.getElem?_cons_succ] at hc1
      simp only [List.length_singleton]
      have e127 := and127 ck
      by_cases h9 : 9 ≤ k
      · obtain rfl : k = 9 := by omega
        have Hn : Hid (takeNum L false = (0, [], true)) := take_none (by rw [dec, hxk, if_pos (.inl (by omega))])
        clear hxk
        by_cases h127 : 127 < ck.toNat
        · go_wp2_with (go_at_call 48; refine (fbad_any B S w0 _ _ _ _ _ h2).mono ?_; rintro e w' ⟨rfl, hr'⟩)
          go_ret
          rw [Hn.out]
          exact ⟨rfl, _, _, hr'⟩
        · by_cases h1 : 1 < ck.toNat
          · go_wp2_with (go_at_call 48; refine (fbad_any B S w0 _ _ _ _ _ h2).mono ?_; rintro e w' ⟨rfl, hr'⟩)
            go_ret
            rw [Hn.out]
            exact ⟨rfl, _, _, hr'⟩
          · by_cases hz : ck.toNat = 0
            · have hzb : ((ck.toNat : Int) == 0) = true := by rw [hz]; rfl
              go_wp2_with (go_at_call 48; refine (fbad_any B S w0 _ _ _ _ _ h2).mono ?_; rintro e w' ⟨rfl, hr'⟩)
              all_goals
                go_ret
                rw [Hn.out]
                exact ⟨rfl, _, _, hr'⟩
            · have hzb : ((ck.toNat : Int) == 0) = false := by rw [beq_eq_false_iff_ne]; omega
              have hbig := or63 (c := ck.toNat) Hx.out (by omega)
              clear hz
              go_wp2_with (go_at_call 48; refine (fbad_any B S w0 _ _ _ _ _ h2).mono ?_; rintro e w' ⟨rfl, hr'⟩)
              all_goals
                go_ret
                rw [Hn.out]
                exact ⟨rfl, _, _, hr'⟩
      · have hk8 : (k : Int) < 9 := by omega
        have hk9b : ((k : Int) == 9) = false := by rw [beq_eq_false_iff_ne]; omega
        have eor := or64 (c := ck.toNat) Hx.out (by omega)
        have Hy : Hid (x + ck.toNat % 128 * 128 ^ k < 128 ^ (k + 1)) := by
          have h1 := Hx.out
          have h2 : ck.toNat % 128 * 128 ^ k ≤ 127 * 128 ^ k := Nat.mul_le_mul_right _ (by omega)
          unfold Hid
          rw [Nat.pow_succ]
          omega
        by_cases h0 : 0 < k ∧ ck.toNat = 0
        · obtain ⟨hk0, hz⟩ := h0
          have hz' : ck = 0 := UInt8.toNat_inj.1 (by simpa using hz)
          have Hn : Hid (takeNum L false = (0, [], true)) := take_none (by rw [dec, hxk, if_pos (.inr ⟨hk0, hz'⟩)])
          have hzb : ((ck.toNat : Int) == 0) = true := by rw [hz]; rfl
          have hlo : ck.toNat < 128 := by omega
          clear hxk hz hz' Hy
          generalize x + ck.toNat % 128 * 128 ^ k = y at *
          go_wp2_with (go_at_call 48; refine (fbad_any B S w0 _ _ _ _ _ h2).mono ?_; rintro e w' ⟨rfl, hr'⟩)
          all_goals
            go_ret
            rw [Hn.out]
            exact ⟨rfl, _, _, hr'⟩
        · have hne : ¬ (9 ≤ k ∨ 0 < k ∧ ck = 0) := by
            rintro (h1 | ⟨h1, h2⟩)
            · exact h9 h1
            · exact h0 ⟨h1, by rw [h2]; rfl⟩
          rw [if_neg hne] at hxk
          clear hne
          by_cases hlo : ck.toNat < 128
          · have hmod : ck.toNat % 128 = ck.toNat := by omega
            rw [if_pos hlo] at hxk
            rw [hmod] at Hy eor
            clear hmod
            generalize x + ck.toNat * 128 ^ k = y at *
            have hguard : ¬ 0 < k ∨ (0 < k ∧ ((ck.toNat : Int) == 0) = false) := by
              rcases Nat.eq_zero_or_pos k with h | h
              · exact .inl (by omega)
              · exact .inr ⟨h, by rw [beq_eq_false_iff_ne]; intro hz; exact h0 ⟨h, by omega⟩⟩
            clear h0
            by_cases hy : 4611686018427387904 < y
            · rw [if_pos hy] at hxk
              have Hn : Hid (takeNum L false = (0, [], true)) := take_none (by rw [dec, hxk])
              clear hxk
              rcases hguard with hk0 | ⟨hk0, hzb⟩
              all_goals
                go_wp2_with (go_at_call 48; refine (fbad_any B S w0 _ _ _ _ _ h2).mono ?_; rintro e w' ⟨rfl, hr'⟩)
                go_ret
                rw [Hn.out]
                exact ⟨rfl, _, _, hr'⟩
            · rw [if_neg hy] at hxk
              have Hn : Hid (takeNum L false = (y, L.drop (k + 1), false)) := take_some (by rw [dec, hxk])
              have h2' := Lib.hid h2
              clear hxk h2
              rcases hguard with hk0 | ⟨hk0, hzb⟩
              all_goals
                go_wp2_with (fail)
                go_ret
                rw [Hn.out]
                exact ⟨rfl, _, _, h2'.out⟩
          · rw [if_neg hlo] at hxk
            have hmod : ck.toNat % 128 = ck.toNat - 128 := by omega
            rw [hmod] at Hy eor
            clear hmod h0
            generalize x + (ck.toNat - 128) * 128 ^ k = y at *
            have HD' : Hid (decGo L 0 0 = decGo (L.drop (k + 1)) (k + 1) y) := hxk
            have h2' := Lib.hid h2
            clear hxk h2
            go_wp2_with (fail)
            go_roundw
            case rel => exact ⟨k + 1, y, A3, c3, by omega, by go_num, rfl, Hy, HD', h2'.out⟩
            case measure => simp [intOf]; omega
    · rw [takeRaw_none (by omega)]
      have Hn : Hid (takeNum L b = (0, [], true)) := take_none (by rw [dec, HD.out, List.drop_eq_nil_of_le (by omega)]; simp [decGo])
      rintro e w2 ⟨A2, c2, rfl, hown, A3, c3, h2⟩
      have hc1 := h2.at_.cell 1
      simp only [List.getElem?_toArray, List.getElem?_cons_zero, List.getElem?_cons_succ] at hc1
      go_wp2_with (fail)
      go_ret
      rw [Hn.out]
      exact ⟨rfl, _, _, h2⟩
end Go.Proofs.Ytlccjdcmhfhoeaa
