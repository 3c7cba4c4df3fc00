
/-
  Several texts in one: Ref1, Ref1R, Ref1S.
-/
import Derived.Test.YtdfkednggjelcaaOctW
import Derived.Test.YtdfkednggjelcaaMOct
namespace Go.Proofs.Ytdfkednggjelcaa
open Go.RowKit
attribute [local go_sem ↓] run_min2 run_max2

theorem and127u (x : Nat) (h : x < 18446744073709551616) : bits .and .u64 (x : Int) 127 = (x : Int) % 128 := by
  rw [show (127 : Int) = ((127 : Nat) : Int) by rfl, u64_and_nat _ _ h (by omega), show (127 : Nat) = 2 ^ 7 - 1 by rfl, Nat.and_two_pow_sub_one_eq_mod]
  rfl

set_option maxRecDepth 100000 in
set_option maxHeartbeats 1600000 in
theorem refNum_any (v : Int) (w : World) (hv : -9223372036854775808 ≤ v) (hv2 : v ≤ 9223372036854775807) :
    Calls Try.prog 80 #[.int .i64 v] w fun e w' => ∃ A c, e = .returned (.slice A (enc (clamp v)).length c) ∧ w'.ownsRow w.heap.size 5 1 (.slice A (enc (clamp v)).length c) (enc (clamp v)).length (cB (enc (clamp v))) ∧ Chg [] w w' := by
  obtain ⟨i0, hi, hz0, hz1, hz2⟩ := info_parts info8
  have Hcl := Lib.hid (clamp_le v)
  have Hlen9 := Lib.hid (enc_len9 (clamp_le v))
  have hcase : 4611686018427387904 < v ∨ (v ≤ 4611686018427387904 ∧ 0 < v) ∨ v ≤ 0 := by omega
  rcases hcase with h | ⟨h, h'⟩ | h
  all_goals
    have HCV : Hid (clamp v = (max 0 (min v 4611686018427387904)).toNat) := rfl
    generalize clamp v = n0 at *
    go_enter Try.func80, Try.ntmps80
    go_wp2_with (fail)
    go_loopw [3, 4] (fun u b wr => ∃ (x : Nat) (M : List UInt8) (A : Option Addr) (c : Nat), u = .int .u64 x ∧ b = .slice A M.length c ∧ x < 9223372036854775808 ∧ Hid (M ++ enc x = enc n0) ∧ wr.ownsRow w.heap.size 5 1 (.slice A M.length c) M.length (cB M) ∧ Chg [] w wr) (fun u _ _ => (intOf u).toNat)
    case atStart => exact ⟨n0, [], none, 0, by congr 1; rw [HCV.out]; omega, rfl, by have := Hcl.out; omega, rfl, World.ownsRow_nil _ _ _ _, Chg.refl _ _⟩
    case round =>
      obtain ⟨x, M, A, c, rfl, rfl, hx63, HM, hown, hch⟩ := hrel
      have hML : M.length ≤ 9 := by
        have h1 := congrArg List.length HM.out
        have h2 := Hlen9.out
        simp only [List.length_append] at h1
        omega
      have hsz := hch.size
      by_cases hx128 : 128 ≤ x
      · have e1 := and127u x (by omega)
        go_wp2_with (at_builtin; refine wpList_append_rd _ rfl (.tmp 13) (.tmp 18) 47 (by rfl) w.heap.size 5 i0 _ 1 1 Try.underlying47 hi hz0 hz1 hz2 rfl (by omega) (.slice A M.length c) M.length (cB M) (by rfl) (hown.alloc _) (some ⟨wr.heap.size, 0, none⟩) 1 1 [.int .u8 _] (by rfl) (Rd.of_at (At.new _ _ _) rfl) (by simp [Value.oneCell']) (by unfold maxLen; omega) (by omega) (by simp; omega) ?_; intro A3 c3 w3 hown3 hg3 hb3)
        go_roundw
        case rel =>
          have hb : (UInt8.ofNat (x % 128 + 128)).toNat = x % 128 + 128 := toNat_ofNat (by omega)
          refine ⟨x / 128, M ++ [UInt8.ofNat (x % 128 + 128)], A3, c3, by go_num, by simp, by omega, ?_, ?_, (hch.alloc _).grown hg3 (fun k hk => .inr (hown.lt k hk).1)⟩
          · unfold Hid; rw [← HM.out, enc_hi hx128]; simp
          · have e2 := u8_or128_right ((x : Int) % 128) (by omega) (by omega)
            have e3 : cB [UInt8.ofNat (x % 128 + 128)] = [.int .u8 (bits .or .u8 ((x : Int) % 128) 128)] := by
              show [Value.int .u8 ((UInt8.ofNat (x % 128 + 128)).toNat : Int)] = _
              rw [hb, e2, show ((x % 128 + 128 : Nat) : Int) = (x : Int) % 128 + 128 by omega]
            rw [cB_app, List.length_append, List.length_singleton, e3]
            exact hown3
        case measure => simp [intOf]; omega
      · go_wp2_with (at_builtin; refine wpList_append_rd _ rfl (.tmp 22) (.tmp 25) 47 (by rfl) w.heap.size 5 i0 _ 1 1 Try.underlying47 hi hz0 hz1 hz2 rfl (by omega) (.slice A M.length c) M.length (cB M) (by rfl) (hown.alloc _) (some ⟨wr.heap.size, 0, none⟩) 1 1 [.int .u8 _] (by rfl) (Rd.of_at (At.new _ _ _) rfl) (by simp [Value.oneCell']) (by unfold maxLen; omega) (by omega) (by simp; omega) ?_; intro A3 c3 w3 hown3 hg3 hb3)
        go_ret
        have h1 := HM.out
        rw [enc_lo (by omega)] at h1
        have hb : (UInt8.ofNat x).toNat = x := toNat_ofNat (by omega)
        rw [← h1, cB_app, List.length_append, List.length_singleton]
        exact ⟨A3, c3, rfl, by simpa [cB, hb] using hown3, (hch.alloc _).grown hg3 (fun k hk => .inr (hown.lt k hk).1)⟩

set_option maxHeartbeats 800000 in
theorem refBytes_any (w : World) (A : Option Addr) (n c : Nat) (ps : List UInt8) (hn : ps.length = n) (hr : Rd w 1 A ps.length (cB ps)) (hlen : ps.length ≤ 1099511627776) :
    Calls Try.prog 82 #[.slice A n c] w fun e w' => ∃ A' c', e = .returned (.slice A' (enc n ++ ps).length c') ∧ w'.ownsRow w.heap.size 5 1 (.slice A' (enc n ++ ps).length c') (enc n ++ ps).length (cB (enc n ++ ps)) ∧ Chg [] w w' := by
  subst hn
  obtain ⟨i0, hi, hz0, hz1, hz2⟩ := info_parts info8
  have hcl : clamp (ps.length : Int) = ps.length := clamp_nat (by omega)
  have Hl9 := Lib.hid (enc_len9 (show ps.length ≤ 4611686018427387904 by omega))
  have HE : Hid (enc (clamp (ps.length : Int)) = enc ps.length) := by unfold Hid; rw [hcl]
  clear hcl
  generalize enc ps.length = E at *
  go_enter Try.func82, Try.ntmps82
  go_wp2_with (fail)
  refine (refNum_any _ _ (by omega) (by omega)).mono ?_
  rintro e w1 ⟨A1, c1, rfl, hown, hch⟩
  rw [HE.out] at hown ⊢
  have hEl := Hl9.out
  have hr1 := hr.keep0 hch
  have hsz := hch.size
  go_wp2_with (at_builtin; refine wpList_append_rd _ rfl (.tmp 5) (.tmp 6) 47 (by rfl) w.heap.size 5 i0 _ 1 1 Try.underlying47 hi hz0 hz1 hz2 rfl (by omega) (.slice A1 E.length c1) E.length (cB E) (by rfl) hown A ps.length c (cB ps) (by rfl) hr1 (cB_one _) (by unfold maxLen; omega) (by omega) hsz ?_; intro A3 c3 w3 hown3 hg3 hb3)
  go_ret
  rw [cB_app, List.length_append]
  exact ⟨A3, c3, rfl, hown3, hch.grown hg3 (fun k hk => .inr (hown.lt k hk).1)⟩

set_option maxHeartbeats 1600000 in
theorem refNums_any (w : World) (A : Option Addr) (n c : Nat) (ns : List Int) (hn : ns.length = n) (hr : Rd w 1 A ns.length (cI ns)) (hlen : ns.length ≤ 1099511627776) (hw : ∀ z ∈ ns, -9223372036854775808 ≤ z ∧ z ≤ 9223372036854775807) :
    Calls Try.prog 59 #[.slice A n c] w fun e w' => ∃ A' c', e = .returned (.slice A' (encs (ns.map clamp)).length c') ∧ w'.ownsRow w.heap.size 5 1 (.slice A' (encs (ns.map clamp)).length c') (encs (ns.map clamp)).length (cB (encs (ns.map clamp))) ∧ Chg [] w w' := by
  subst hn
  obtain ⟨i0, hi, hz0, hz1, hz2⟩ := info_parts info8
  have HW := Lib.hid hw
  clear hw
  go_enter Try.func59, Try.ntmps59
  go_wp2_with (fail)
  go_loopw [4, 3] (fun i b wr => ∃ (k : Nat) (M : List UInt8) (A : Option Addr) (c : Nat), k ≤ ns.length ∧ i = .int .i64 k ∧ b = .slice A M.length c ∧ M.length ≤ 9 * k ∧ Hid (M = encs ((ns.take k).map clamp)) ∧ wr.ownsRow w.heap.size 5 1 (.slice A M.length c) M.length (cB M) ∧ Chg [] w wr) (fun i _ _ => ns.length - (intOf i).toNat)
  case atStart => exact ⟨0, [], none, 0, Nat.zero_le _, rfl, rfl, by simp, rfl, World.ownsRow_nil _ _ _ _, Chg.refl _ _⟩
  case round =>
    obtain ⟨k, M, A1, c1, hk, rfl, rfl, hML, HM, hown, hch⟩ := hrel
    by_cases hlt : k < ns.length
    · obtain ⟨ad, u, rfl, had, hu, hc⟩ := (hr.keep0 hch).get hlt
      rw [cI_get hlt] at hu
      have Hz := Lib.hid (HW.out _ (List.getElem_mem hlt))
      have HT : Hid (encs ((ns.take (k + 1)).map clamp) = encs ((ns.take k).map clamp) ++ enc (clamp ns[k])) := by
        unfold Hid; rw [List.take_succ_eq_append_getElem hlt, List.map_append, encs_append]; simp [encs]
      generalize ns[k] = z at *
      obtain rfl : Value.int .i64 z = u := by simpa using hu
      clear hu
      have Hl9 := Lib.hid (enc_len9 (clamp_le z))
      go_wp2_with (fail)
      refine (refNum_any z _ Hz.out.1 Hz.out.2).mono ?_
      rintro e w1 ⟨A2, c2, rfl, hown2, hch2⟩
      have hEl := Hl9.out
      generalize enc (clamp z) = E at *
      have hown1 := own_keep hown hch2 (by simp)
      have hsz := (hch.trans hch2 (by simp)).size
      have hr2 := Rd.of_own hown2
      go_wp2_with (at_builtin; refine wpList_append_rd _ rfl (.tmp 11) (.tmp 16) 47 (by rfl) w.heap.size 5 i0 _ 1 1 Try.underlying47 hi hz0 hz1 hz2 rfl (by omega) (.slice A1 M.length c1) M.length (cB M) (by rfl) hown1 A2 E.length c2 (cB E) (by rfl) hr2 (cB_one _) (by unfold maxLen; omega) (by omega) hsz ?_; intro A3 c3 w3 hown3 hg3 hb3)
      go_roundw
      case rel =>
        refine ⟨k + 1, M ++ E, A3, c3, by omega, by go_num, by simp, by simp; omega, ?_, ?_, (hch.trans hch2 (by simp)).grown hg3 (fun k hk => .inr (hown.lt k hk).1)⟩
        · unfold Hid; rw [HT.out, ← HM.out]
        · rw [cB_app, List.length_append]; exact hown3
      case measure => simp [intOf]; omega
    · obtain rfl : k = ns.length := by omega
      go_wp2_with (fail)
      go_ret
      have h := HM.out
      rw [List.take_length] at h
      rw [← h]
      exact ⟨A1, c1, rfl, hown, hch⟩
end Go.Proofs.Ytdfkednggjelcaa
namespace Go.Proofs.Ytdfkednggjelcaa
open Go.RowKit

set_option maxHeartbeats 400000 in
theorem fbad_any (B : Nat) (S : List Nat) (w0 w : World) (A : Option Addr) (c : Nat) (L : List UInt8) (b : Bool) (h : RrG 100 w0 B S w A c L b) :
    Calls Try.prog 66 #[.pointer (some ⟨B, 0, none⟩)] w fun e w' => e = .returned (.tuple #[]) ∧ RrG 100 w0 B S w' none 0 [] true := by
  have hc0 := h.at_.cell 0
  have hc1 := h.at_.cell 1
  have hf0 := h.at_.free 0
  have hf1 := h.at_.free 1
  simp only [List.getElem?_toArray, List.getElem?_cons_zero, List.getElem?_cons_succ] at hc0 hc1
  go_enter Try.func66, Try.ntmps66
  go_wp2_with (fail)
  go_end0
  refine ⟨rfl, ?_, Rd.nil _ _ _, Nat.le_refl _, (h.chg.setCell (.inl (by simp)) _).setCell (.inl (by simp)) _, by simp [blk], h.ne, fun _ => rfl⟩
  exact (h.at_.set_ 1 _).set_ 0 _

set_option maxHeartbeats 800000 in
theorem fraw_any (B : Nat) (S : List Nat) (w0 w : World) (A : Option Addr) (c : Nat) (L : List UInt8) (b : Bool) (n : Int) (h : RrG 100 w0 B S w A c L b) (hl : L.length ≤ 1099511627776) :
    Calls Try.prog 65 #[.pointer (some ⟨B, 0, none⟩), .int .i64 n] w fun e w' => ∃ A2 c2, e = .returned (.slice A2 (takeRaw L b n).1.length c2) ∧
      w'.ownsRow w.heap.size 5 1 (.slice A2 (takeRaw L b n).1.length c2) (takeRaw L b n).1.length (cB (takeRaw L b n).1) ∧ ∃ A' c', RrG 100 w0 B S w' A' c' (takeRaw L b n).2.1 (takeRaw L b n).2.2 := by
  obtain ⟨i0, hi, hz0, hz1, hz2⟩ := info_parts info8
  have hc0 := h.at_.cell 0
  have hc1 := h.at_.cell 1
  have hf0 := h.at_.free 0
  simp only [List.getElem?_toArray, List.getElem?_cons_zero, List.getElem?_cons_succ] at hc0 hc1
  by_cases hin : 0 ≤ n ∧ n ≤ (L.length : Int)
  · obtain ⟨hn0, hn1⟩ := hin
    obtain ⟨k, rfl⟩ := Int.eq_ofNat_of_zero_le hn0
    have hcap := h.cap
    have hkl : k ≤ L.length := by omega
    have Hn : Hid (takeRaw L b (k : Int) = (L.take k, L.drop k, b)) := by unfold takeRaw Hid; rw [if_pos ⟨by omega, by omega⟩]; rfl
    have hn0' : ¬ ((k : Int) < 0) := by omega
    have hn1' : ¬ ((L.length : Int) < (k : Int)) := by omega
    clear hn0 hn1
    cases b with
    | false =>
      have hsl := fun w => run_slice_hi (P := Try.prog) w Try.underlying47 hi A L.length c (k : Int) k rfl (by omega)
      have hsl2 := fun w => run_slice_lo (P := Try.prog) w Try.underlying47 hi hz1 A L.length c (k : Int) k rfl hkl
      have Hk : Hid ((L.take k).length = k) := by unfold Hid; rw [List.length_take]; omega
      have hrk : Rd w 1 A k (cB (L.take k)) := by have := h.rd.takeB hkl; rw [Hk.out] at this; exact this
      have hB := h.at_.lt
      go_enter Try.func65, Try.ntmps65
      go_wp2_with (at_builtin; refine wpList_append_rd _ rfl (.tmp 23) (.tmp 29) 47 (by rfl) w.heap.size 5 i0 _ 1 1 Try.underlying47 hi hz0 hz1 hz2 rfl (by omega) (.slice (some ⟨w.heap.size, 0, none⟩) 0 0) 0 [] (by rfl) (World.ownsRow_made w #[] 0 (Nat.le_refl _) (by simp [maxLen]) rfl) A k c (cB (L.take k)) (by rfl) (hrk.alloc _) (cB_one _) (by unfold maxLen; omega) (by omega) (by simp) ?_; intro A3 c3 w3 hown3 hg3 hb3; have hch3 : Chg [] w w3 := ((Chg.refl [] w).alloc _).grown hg3 (fun k hk => .inr (by simp [Value.ownBlock] at hk; omega)); have h3 := h.keep0 hch3; have hc3 := h3.at_.cell 0; have hf3 := h3.at_.free 0; simp only [List.getElem?_toArray, List.getElem?_cons_zero] at hc3)
      go_ret
      rw [Hn.out]
      have e2 : ((L.take k, L.drop k, false) : List UInt8 × List UInt8 × Bool).1.length = k := Hk.out
      have hne : ∀ j, (Value.slice A3 (0 + k) c3).ownBlock = some j → j ∉ [B] := by
        intro j hj hm
        have h1 := (hown3.lt j hj).1
        simp at hm
        omega
      refine ⟨A3, c3, by rw [e2]; simp, ?_, _, _, h3.setOf (A' := cutA A c k 1) (L' := L.drop k) (n := L.length - k) (by simp) (h3.rd.dropB hkl hcap) (by simp; omega) (fun h0 => by rw [cutA_blk]; exact h.blk (by simp at h0; omega)) (by intro hb; cases hb)⟩
      rw [e2]
      have h4 := own_keep hown3 ((Chg.refl [B] _).setCell (p := ⟨B, 0, none⟩) (.inl (by simp)) (.slice (cutA A c k 1) (L.length - k) (c - k))) hne
      simpa using h4
    | true =>
      have hL := h.err rfl
      subst hL
      obtain rfl : k = 0 := by simp at hkl; omega
      go_enter Try.func65, Try.ntmps65
      go_wp2_with (fail)
      go_ret
      have Hn' : takeRaw [] true 0 = ([], [], true) := Hn.out
      rw [Hn']
      exact ⟨none, 0, rfl, World.ownsRow_nil _ _ _ _, _, _, h⟩
  · have Hn : Hid (takeRaw L b n = ([], [], true)) := by unfold takeRaw Hid; rw [if_neg hin]
    have hcase : n < 0 ∨ (0 ≤ n ∧ (L.length : Int) < n) := by omega
    clear hin
    rcases hcase with hn0 | ⟨hn0, hn1⟩
    all_goals
      go_enter Try.func65, Try.ntmps65
      go_wp2_with (fail)
      refine (fbad_any B S w0 _ _ _ _ _ h).mono ?_
      rintro e w' ⟨rfl, hr'⟩
      have hc1' := hr'.at_.cell 1
      simp only [List.getElem?_toArray, List.getElem?_cons_zero, List.getElem?_cons_succ] at hc1'
      go_wp2_with (fail)
      go_ret
      rw [Hn.out]
      exact ⟨none, 0, rfl, World.ownsRow_nil _ _ _ _, _, _, hr'⟩

theorem takeRaw_one {L : List UInt8} {b : Bool} {k : Nat} (h : k < L.length) : takeRaw (L.drop k) b 1 = ([L[k]], L.drop (k + 1), b) := by
  have h1 : (L.drop k).length = L.length - k := by simp
  unfold takeRaw
  rw [if_pos ⟨by omega, by omega⟩, List.drop_eq_getElem_cons h]
  rfl
theorem takeRaw_none {L : List UInt8} {b : Bool} {k : Nat} (h : L.length ≤ k) : takeRaw (L.drop k) b 1 = ([], [], true) := by
  unfold takeRaw
  rw [if_neg (by simp; omega)]

theorem or63 {x c : Nat} (hx : x < 128 ^ 9) (hc : c % 128 = 1 ∨ (c ≠ 0 ∧ c ≤ 1)) : 4611686018427387904 < bits .or .u64 (x : Int) ((c : Int) % 128 * 9223372036854775808) := by
  have hc1 : (c : Int) % 128 = 1 := by omega
  have e : (128 : Nat) ^ 9 = 2 ^ 63 := by decide
  have e63 : (2 : Nat) ^ 63 = 9223372036854775808 := by decide
  rw [e] at hx
  rw [hc1, Int.one_mul, show (9223372036854775808 : Int) = ((9223372036854775808 : Nat) : Int) by rfl, u64_or_nat _ _ (by omega) (by omega)]
  have h := Nat.two_pow_add_eq_or_of_lt hx 1
  rw [Nat.mul_one, e63, Nat.or_comm] at h
  rw [← h]
  omega

set_option maxRecDepth 100000 in
set_option maxHeartbeats 1600000 in
theorem fnum_any (B : Nat) (S : List Nat) (w0 w : World) (A : Option Addr) (c : Nat) (L : List UInt8) (b : Bool) (h : RrG 100 w0 B S w A c L b) (hl : L.length ≤ 1099511627776) :
    Calls Try.prog 46 #[.pointer (some ⟨B, 0, none⟩)] w fun e w' => e = .returned (.int .i64 (takeNum L b).1) ∧ ∃ A' c', RrG 100 w0 B S w' A' c' (takeNum L b).2.1 (takeNum L b).2.2 := by
  go_enter Try.func46, Try.ntmps46
  go_wp2_with (fail)
  go_loopw [4, 3] (fun i u wr => ∃ (k x : Nat) (A' : Option Addr) (c' : Nat), k ≤ 9 ∧ i = .int .i64 k ∧ u = .int .u64 x ∧ Hid (x < 128 ^ k) ∧ Hid (decGo L 0 0 = decGo (L.drop k) k x) ∧ RrG 100 w0 B S wr A' c' (L.drop k) b) (fun i _ _ => 10 - (intOf i).toNat)
  case atStart => exact ⟨0, 0, A, c, by omega, rfl, rfl, by simp [Hid], by simp [Hid], by simpa using h⟩
  case round =>
    obtain ⟨k, x, A1, c1, hk9, rfl, rfl, Hx, HD, hw1⟩ := hrel
    have hk9' : (k : Int) < 10 := by omega
    go_wp2_with (fail)
    refine (fraw_any B S w0 _ A1 c1 (L.drop k) b 1 hw1 (by simp; omega)).mono ?_
    by_cases hlt : k < L.length
    · have hdr : L.drop k = L[k] :: L.drop (k + 1) := by rw [List.drop_eq_getElem_cons hlt]
      rw [takeRaw_one hlt]
      rw [hdr] at HD
      clear hdr
      rintro e w2 ⟨A2, c2, rfl, hown, A3, c3, h2⟩
      have hxk := HD.out
      simp only [decGo] at hxk
      have hb := L[k].toNat_lt
      have Hbe : Hid (b = false) := by
        cases b
        · rfl
        · have := hw1.err rfl
          have h3 := congrArg List.length this
          simp at h3
          omega
      obtain ⟨g, rfl, hg0, hg1, hcell, _⟩ := own_cells hown (by simp)
      have hce := hcell 0 _ rfl
      clear hcell
      generalize hck : L[k] = ck at *
      clear hck
      obtain rfl := Hbe.out
      have hc1 := h2.at_.cell 1
      simp only [List.getElem?_toArray, List.getElem?_cons_zero, List.getElem?_cons_succ] at hc1
      simp only [List.length_singleton]
      have e127 := and127 ck
      by_cases h9 : 9 ≤ k
      · obtain rfl : k = 9 := by omega
        have Hn : Hid (takeNum L false = (0, [], true)) := take_none (by rw [dec, hxk, if_pos (.inl (by omega))])
        clear hxk
        by_cases h127 : 127 < ck.toNat
        · go_wp2_with (go_at_call 66; refine (fbad_any B S w0 _ _ _ _ _ h2).mono ?_; rintro e w' ⟨rfl, hr'⟩)
          go_ret
          rw [Hn.out]
          exact ⟨rfl, _, _, hr'⟩
        · by_cases h1 : 1 < ck.toNat
          · go_wp2_with (go_at_call 66; refine (fbad_any B S w0 _ _ _ _ _ h2).mono ?_; rintro e w' ⟨rfl, hr'⟩)
            go_ret
            rw [Hn.out]
            exact ⟨rfl, _, _, hr'⟩
          · by_cases hz : ck.toNat = 0
            · have hzb : ((ck.toNat : Int) == 0) = true := by rw [hz]; rfl
              go_wp2_with (go_at_call 66; refine (fbad_any B S w0 _ _ _ _ _ h2).mono ?_; rintro e w' ⟨rfl, hr'⟩)
              all_goals
                go_ret
                rw [Hn.out]
                exact ⟨rfl, _, _, hr'⟩
            · have hzb : ((ck.toNat : Int) == 0) = false := by rw [beq_eq_false_iff_ne]; omega
              have hbig := or63 (c := ck.toNat) Hx.out (by omega)
              clear hz
              go_wp2_with (go_at_call 66; refine (fbad_any B S w0 _ _ _ _ _ h2).mono ?_; rintro e w' ⟨rfl, hr'⟩)
              all_goals
                go_ret
                rw [Hn.out]
                exact ⟨rfl, _, _, hr'⟩
      · have hk8 : (k : Int) < 9 := by omega
        have hk9b : ((k : Int) == 9) = false := by rw [beq_eq_false_iff_ne]; omega
        have eor := or64 (c := ck.toNat) Hx.out (by omega)
        have Hy : Hid (x + ck.toNat % 128 * 128 ^ k < 128 ^ (k + 1)) := by
          have h1 := Hx.out
          have h2 : ck.toNat % 128 * 128 ^ k ≤ 127 * 128 ^ k := Nat.mul_le_mul_right _ (by omega)
          unfold Hid
          rw [Nat.pow_succ]
          omega
        by_cases h0 : 0 < k ∧ ck.toNat = 0
        · obtain ⟨hk0, hz⟩ := h0
          have hz' : ck = 0 := UInt8.toNat_inj.1 (by simpa using hz)
          have Hn : Hid (takeNum L false = (0, [], true)) := take_none (by rw [dec, hxk, if_pos (.inr ⟨hk0, hz'⟩)])
          have hzb : ((ck.toNat : Int) == 0) = true := by rw [hz]; rfl
          have hlo : ck.toNat < 128 := by omega
          clear hxk hz hz' Hy
          generalize x + ck.toNat % 128 * 128 ^ k = y at *
          go_wp2_with (go_at_call 66; refine (fbad_any B S w0 _ _ _ _ _ h2).mono ?_; rintro e w' ⟨rfl, hr'⟩)
          all_goals
            go_ret
            rw [Hn.out]
            exact ⟨rfl, _, _, hr'⟩
        · have hne : ¬ (9 ≤ k ∨ 0 < k ∧ ck = 0) := by
            rintro (h1 | ⟨h1, h2⟩)
            · exact h9 h1
            · exact h0 ⟨h1, by rw [h2]; rfl⟩
          rw [if_neg hne] at hxk
          clear hne
          by_cases hlo : ck.toNat < 128
          · have hmod : ck.toNat % 128 = ck.toNat := by omega
            rw [if_pos hlo] at hxk
            rw [hmod] at Hy eor
            clear hmod
            generalize x + ck.toNat * 128 ^ k = y at *
            have hguard : ¬ 0 < k ∨ (0 < k ∧ ((ck.toNat : Int) == 0) = false) := by
              rcases Nat.eq_zero_or_pos k with h | h
              · exact .inl (by omega)
              · exact .inr ⟨h, by rw [beq_eq_false_iff_ne]; intro hz; exact h0 ⟨h, by omega⟩⟩
            clear h0
            by_cases hy : 4611686018427387904 < y
            · rw [if_pos hy] at hxk
              have Hn : Hid (takeNum L false = (0, [], true)) := take_none (by rw [dec, hxk])
              clear hxk
              rcases hguard with hk0 | ⟨hk0, hzb⟩
              all_goals
                go_wp2_with (go_at_call 66; refine (fbad_any B S w0 _ _ _ _ _ h2).mono ?_; rintro e w' ⟨rfl, hr'⟩)
                go_ret
                rw [Hn.out]
                exact ⟨rfl, _, _, hr'⟩
            · rw [if_neg hy] at hxk
              have Hn : Hid (takeNum L false = (y, L.drop (k + 1), false)) := take_some (by rw [dec, hxk])
              have h2' := Lib.hid h2
              clear hxk h2
              rcases hguard with hk0 | ⟨hk0, hzb⟩
              all_goals
                go_wp2_with (fail)
                go_ret
                rw [Hn.out]
                exact ⟨rfl, _, _, h2'.out⟩
          · rw [if_neg hlo] at hxk
            have hmod : ck.toNat % 128 = ck.toNat - 128 := by omega
            rw [hmod] at Hy eor
            clear hmod h0
            generalize x + (ck.toNat - 128) * 128 ^ k = y at *
            have HD' : Hid (decGo L 0 0 = decGo (L.drop (k + 1)) (k + 1) y) := hxk
            have h2' := Lib.hid h2
            clear hxk h2
            go_wp2_with (fail)
            go_roundw
            case rel => exact ⟨k + 1, y, A3, c3, by omega, by go_num, rfl, Hy, HD', h2'.out⟩
            case measure => simp [intOf]; omega
    · rw [takeRaw_none (by omega)]
      have Hn : Hid (takeNum L b = (0, [], true)) := take_none (by rw [dec, HD.out, List.drop_eq_nil_of_le (by omega)]; simp [decGo])
      rintro e w2 ⟨A2, c2, rfl, hown, A3, c3, h2⟩
      have hc1 := h2.at_.cell 1
      simp only [List.getElem?_toArray, List.getElem?_cons_zero, List.getElem?_cons_succ] at hc1
      go_wp2_with (fail)
      go_ret
      rw [Hn.out]
      exact ⟨rfl, _, _, h2⟩
end Go.Proofs.Ytdfkednggjelcaa
namespace Go.Proofs.Ytdfkednggjelcaa
open Go.RowKit

set_option maxHeartbeats 400000 in
theorem fbytes_any (B : Nat) (S : List Nat) (w0 w : World) (A : Option Addr) (c : Nat) (L : List UInt8) (b : Bool) (h : RrG 100 w0 B S w A c L b) (hl : L.length ≤ 1099511627776) :
    Calls Try.prog 68 #[.pointer (some ⟨B, 0, none⟩)] w fun e w' => ∃ A2 c2, e = .returned (.slice A2 (takeRow L b).1.length c2) ∧
      w'.ownsRow w.heap.size 5 1 (.slice A2 (takeRow L b).1.length c2) (takeRow L b).1.length (cB (takeRow L b).1) ∧ ∃ A' c', RrG 100 w0 B S w' A' c' (takeRow L b).2.1 (takeRow L b).2.2 := by
  have hlen := takeNum_len L b
  have Htr : Hid (takeRow L b = takeRaw (takeNum L b).2.1 (takeNum L b).2.2 ((takeNum L b).1 : Int)) := rfl
  generalize takeRow L b = R at *
  go_enter Try.func68, Try.ntmps68
  go_wp2_with (fail)
  refine (fnum_any B S w _ A c L b h.here hl).mono ?_
  generalize takeNum L b = N at *
  obtain ⟨m, L1, b1⟩ := N
  rintro e w1 ⟨rfl, A1, c1, h1⟩
  simp only at h1 hlen Htr ⊢
  have hc1 := h1.at_.cell 1
  simp only [List.getElem?_toArray, List.getElem?_cons_zero, List.getElem?_cons_succ] at hc1
  have hsz := h1.chg.size
  cases b1 with
  | true =>
    obtain rfl := h1.err rfl
    go_wp2_with (fail)
    go_ret
    have e : takeRaw [] true (m : Int) = ([], [], true) := by
      unfold takeRaw
      split <;> simp
    rw [Htr.out, e]
    exact ⟨none, 0, rfl, World.ownsRow_nil _ _ _ _, A1, c1, h.trans h1⟩
  | false =>
    go_wp2_with (fail)
    refine (fraw_any B S w _ A1 c1 L1 false _ h1 (by omega)).mono ?_
    rw [← Htr.out]
    rintro e w2 ⟨A2, c2, rfl, hown, A3, c3, h2⟩
    go_wp2_with (fail)
    go_ret
    exact ⟨A2, c2, rfl, own_base hown (fun k hk => Nat.le_trans hsz (hown.lt k hk).1), A3, c3, h.trans h2⟩

set_option maxHeartbeats 400000 in
theorem fwhole_any (B : Nat) (S : List Nat) (w0 w : World) (A : Option Addr) (c : Nat) (L : List UInt8) (b : Bool) (h : RrG 100 w0 B S w A c L b) :
    Calls Try.prog 48 #[.pointer (some ⟨B, 0, none⟩)] w fun e w' => e = .returned (.bool (!b && decide (L = []))) ∧ w = w' := by
  have hc0 := h.at_.cell 0
  have hc1 := h.at_.cell 1
  simp only [List.getElem?_toArray, List.getElem?_cons_zero, List.getElem?_cons_succ] at hc0 hc1
  cases b
  all_goals
    go_enter Try.func48, Try.ntmps48
    go_wp2_with (fail)
    go_ret
    exact ⟨by simp [len0], rfl⟩
end Go.Proofs.Ytdfkednggjelcaa
