/-
  OctetRows: the walk of the law.
-/
import Derived.Test.YtghabhhnhalpgaaLawO2
import Derived.Test.YtghabhhnhalpgaaOctAll
import Derived.Test.YtghabhhnhalpgaaRef1
import Derived.OpenShut
namespace Go.Proofs.Ytghabhhnhalpgaa
open Go.RowKit
set_option linter.unusedVariables false

theorem takeRow_enc {r X : List UInt8} {b : Bool} (h : r.length ≤ 1099511627776) : takeRow (enc r.length ++ r ++ X) b = (r, X, b) := by
  unfold takeRow
  rw [List.append_assoc, take_some (dec_enc (show r.length ≤ 4611686018427387904 by omega) _)]
  unfold takeRaw
  rw [if_pos ⟨by simp, by simp; omega⟩]
  simp
theorem encRows_app (a b : List (List UInt8)) : encRows (a ++ b) = encRows a ++ encRows b := by simp [encRows]
theorem encRows_cons (r : List UInt8) (l : List (List UInt8)) : encRows (r :: l) = enc r.length ++ r ++ encRows l := by simp [encRows]
theorem encRows_len (l : List (List UInt8)) : (encRows l).length ≤ (l.map fun r => 9 + r.length).sum ∨ ∃ r ∈ l, 4611686018427387904 < r.length := by
  induction l with
  | nil => left; simp [encRows]
  | cons r l ih =>
    by_cases hr : 4611686018427387904 < r.length
    · exact .inr ⟨r, by simp, hr⟩
    · rcases ih with ih | ⟨q, h1, h2⟩
      · left
        have := enc_len9 (show r.length ≤ 4611686018427387904 by omega)
        rw [encRows_cons]
        simp
        omega
      · exact .inr ⟨q, List.mem_cons_of_mem _ h1, h2⟩
theorem sum_take_le (l : List Nat) (k : Nat) : (l.take k).sum ≤ l.sum := by
  induction l generalizing k with
  | nil => simp
  | cons a l ih =>
    cases k with
    | zero => simp
    | succ k => have := ih k; simp; omega
theorem mem_le_sum {l : List Nat} {a : Nat} (h : a ∈ l) : a ≤ l.sum := by
  induction l with
  | nil => cases h
  | cons b l ih =>
    rcases List.mem_cons.1 h with rfl | h
    · simp
    · have := ih h; simp; omega
/-- Rows that are not heavy: their bytes. -/
theorem light {ls : List SlB} (h : 3 * ls.length + (ls.map fun r => r.bs.length).sum ≤ 4000) :
    ls.length ≤ 1333 ∧ (∀ r ∈ ls, r.bs.length ≤ 4000) ∧ ∀ k, (encRows ((ls.take k).map SlB.bs)).length ≤ 16000 := by
  have hm : ∀ r ∈ ls, r.bs.length ≤ 4000 := fun r hr => by
    have := mem_le_sum (List.mem_map.2 ⟨r, hr, rfl⟩ : r.bs.length ∈ ls.map fun r => r.bs.length)
    omega
  refine ⟨by omega, hm, fun k => ?_⟩
  rcases encRows_len ((ls.take k).map SlB.bs) with h1 | ⟨r, h1, h2⟩
  · refine Nat.le_trans h1 ?_
    have e : (((ls.take k).map SlB.bs).map fun r => 9 + r.length) = (ls.map fun r => 9 + r.bs.length).take k := by
      rw [List.map_map, List.map_take]; rfl
    rw [e]
    refine Nat.le_trans (sum_take_le _ k) ?_
    have e2 : ∀ (q : List SlB), (q.map fun r => 9 + r.bs.length).sum = 9 * q.length + (q.map fun r => r.bs.length).sum := by
      intro q
      induction q with
      | nil => rfl
      | cons a q ih => simp; omega
    rw [e2]
    omega
  · obtain ⟨q, hq, rfl⟩ := List.mem_map.1 h1
    have := hm q (List.mem_of_mem_take hq)
    omega

set_option maxRecDepth 100000 in
set_option maxHeartbeats 6400000 in
theorem rows_law (w : World) (A : Option Addr) (c : Nat) (ls : List SlB) (hr : Rd w 1 A ls.length (cR ls)) (hlc : ls.length ≤ c) (hcm : c ≤ maxLen) (hrs : ∀ r ∈ ls, RdB w r ∧ r.bs.length ≤ r.c ∧ r.c ≤ maxLen)
    (A' : Option Addr) (c' : Nat) (raw : List UInt8) (hraw : Rd w 1 A' raw.length (cB raw)) (hlc' : raw.length ≤ c') (hcm' : c' ≤ maxLen) :
    Calls Try.prog 7 #[.slice A ls.length c, .slice A' raw.length c'] w fun e w' => e = .returned (.bool true) ∧ Chg [] w w' := by
  unfold maxLen at hcm hcm'
  have hls : ls.length ≤ 9223372036854775807 := by omega
  have HRS := Lib.hid hrs
  have hbl : ∀ r ∈ ls, r.bs.length ≤ 9223372036854775807 := fun r h => by have := HRS.out r h; unfold maxLen at this; omega
  have HBL := Lib.hid hbl
  clear hrs hbl
  obtain ⟨i0, hi, hz0, hz1, hz2⟩ := info_parts info8
  go_enter Try.func7, Try.ntmps7
  go_wp2_with (fail)
  refine (heavyRows_any _ A ls.length c ls rfl hr hls HBL.out).mono ?_
  rintro e w1 ⟨hv, rfl, hlight, rfl⟩
  cases hv with
  | true =>
    go_wp2_with (fail)
    go_ret
    exact ⟨rfl, Chg.refl _ _⟩
  | false =>
    have HLT := Lib.hid (light (hlight rfl))
    clear hlight
    by_cases hb : 4000 < raw.length
    · go_wp2_with (fail)
      go_ret
      exact ⟨rfl, Chg.refl _ _⟩
    · go_wp2_with (fail)
      go_loopw [8, 7] (fun i wt wr => ∃ (k : Nat) (W : List UInt8) (A1 : Option Addr) (c1 : Nat) (A7 : Option Addr) (c7 : Nat), k ≤ ls.length ∧ i = .int .i64 k ∧ wt = .slice A7 W.length c7 ∧ Hid (W = encRows ((ls.take k).map SlB.bs)) ∧
        All w wr [rWr w.heap.size A1 c1 W, rRow 0 5 A7 W.length c7 (cB W), rWr (w.heap.size + 1) none 0 []]) (fun i _ _ => ls.length - (intOf i).toNat)
      case atStart =>
        have h1 := ((All.start w).newWr rfl).newWr (B := w.heap.size + 1) (by simp)
        have h2 : All w _ [rRow 0 5 none 0 0 (cB []), rWr (w.heap.size + 1) none 0 [], rWr w.heap.size none 0 []] := h1.row (Chg.refl _ _) (World.ownsRow_nil _ _ _ _)
        exact ⟨0, [], none, 0, none, 0, Nat.zero_le _, rfl, rfl, rfl, h2.front 2 rfl⟩
      case round =>
        obtain ⟨k, W, A1, c1, A7, c7, hk, rfl, rfl, HW, h0⟩ := hrel
        by_cases hlt : k < ls.length
        · obtain ⟨ad, u, rfl, had, hu, hc⟩ := hr.get hlt
          rw [cR_get hlt] at hu
          have hrow : RdB w ls[k] := (HRS.out _ (List.getElem_mem hlt)).1
          have hbs := HLT.out.2.1 _ (List.getElem_mem hlt)
          have hWl := HLT.out.2.2 k
          rw [← HW.out] at hWl
          have HW' : Hid (W ++ (enc ls[k].bs.length ++ ls[k].bs) = encRows ((ls.take (k + 1)).map SlB.bs)) := by
            unfold Hid
            rw [HW.out, List.take_succ_eq_append_getElem hlt, List.map_append, List.map_singleton, encRows_snoc]
          generalize ls[k] = r at *
          obtain rfl : Value.slice r.A r.bs.length r.c = u := by simpa using hu
          obtain ⟨rA, rc, bs⟩ := r
          simp only [RdB] at hrow hc hbs HW'
          clear hu
          have Hrow := Lib.hid hrow
          clear hrow
          have Hcw : Hid (∀ w', Chg [] w w' → w'.cell? (ad.add k) = some (.slice rA bs.length rc)) := fun w' h => (h.cell (p := ad.add k) (by rw [add_block]; exact had) (by simp)).trans hc
          clear hc
          have hE9 := enc_len9 (show bs.length ≤ 4611686018427387904 by omega)
          have hcw := Hcw.out wr h0.chg
          go_wp2_with (fail)
          refine (roomy_any _ rA bs.length rc bs rfl (Rd.keep0 Hrow.out h0.chg) (by omega)).mono ?_
          rintro e w2 ⟨A9, c9, rfl, hown9, hch2⟩
          have h1 := h0.row hch2 hown9
          have hcap9 := own_cap hown9
          have hcw2 := Hcw.out w2 h1.chg
          have hsl := fun w => run_slice_hi (P := Try.prog) w Try.underlying23 hi A9 (bs.length + 1) c9 (bs.length : Int) bs.length rfl (by omega)
          clear hown9 hch2
          go_wp2_with (fail)
          have h2 : All w _ [rWr w.heap.size A1 c1 W, rRow 0 5 A9 (bs.length + 1) c9 (cB (bs ++ [171])), rRow 0 5 A7 W.length c7 (cB W), rWr (w.heap.size + 1) none 0 []] := (h1.quiet ((Chg.refl [] w2).alloc (.cells #[.slice A9 bs.length c9] 23))).front 1 rfl
          have hpre : Rd w2 1 A9 bs.length (cB bs) := by
            have h := Rd.of_own (own_prefix (h1.get 0 rfl : w2.ownsRow 0 5 1 (.slice A9 (bs.length + 1) c9) (bs.length + 1) (cB (bs ++ [171]))) (m := bs.length) (by omega))
            have e : (cB (bs ++ [171])).take bs.length = cB bs := by
              rw [cB_app, List.take_append_of_le_length (by simp [cB_len]), List.take_of_length_le (by simp [cB_len])]
            rw [e] at h
            exact h
          refine (bytes_any w.heap.size (blk A1) _ _ A1 c1 (some ⟨w2.heap.size, 0, none⟩) 1 [⟨A9, c9, bs⟩] W (h2.get 0 rfl) (Rd.new' rfl rfl rfl) ?_ ?_ ?_ ?_ (by simp)).mono ?_
          · intro r hr
            obtain rfl := List.mem_singleton.1 hr
            exact hpre.alloc _
          · intro j hj
            have hE : (encRows (List.map SlB.bs [⟨A9, c9, bs⟩])).length ≤ 9 + bs.length := by simp [encRows]; omega
            have h01 : j = 0 ∨ j = 1 := by simp at hj; omega
            rcases h01 with rfl | rfl
            · simp [encRows]; omega
            · simp only [List.length_append, List.take_succ_cons, List.take_zero]; omega
          · refine Away.at (fun hx => ?_)
            have := (h1.rng 1 rfl _ hx).2
            omega
          · intro r hr
            obtain rfl := List.mem_singleton.1 hr
            exact fun _ => h2.apart 0 rfl
          rintro e w3 ⟨rfl, A3, c3, hw3⟩
          have HE3 : Hid (W ++ encRows (List.map SlB.bs [⟨A9, c9, bs⟩]) = W ++ (enc bs.length ++ bs)) := by simp [encRows, Hid]
          rw [HE3.out] at hw3
          clear HE3
          have h3 := h2.wr hw3
          have hcw3 := Hcw.out w3 h3.chg
          clear hw3 h1 h2 hpre hcw hcw2
          go_wp2_with (fail)
          refine (stands_any _ A9 rA _ _ c9 rc bs rfl rfl (Rd.of_own (h3.get 1 rfl)) (Rd.keep0 Hrow.out h3.chg) hcap9 (by omega)).mono ?_
          rintro e w4 ⟨rfl, hch4⟩
          have h4 := (h3.quiet hch4).front 1 rfl
          clear h3 hch4
          go_wp2_with (fail)
          refine (spoil_any _ 0 A9 _ c9 _ (h4.get 0 rfl) (by omega) (Nat.zero_le _)).mono ?_
          rintro e w5 ⟨rfl, hch5⟩
          have h5 := h4.ruin hch5
          have hcw5 := Hcw.out w5 h5.chg
          clear h4 hch5 hcw3
          go_wp2_with (fail)
          refine (refBytes_any _ rA bs.length rc bs rfl (Rd.keep0 Hrow.out h5.chg) (by omega)).mono ?_
          rintro e w6 ⟨A6, c6, rfl, hown6, hch6⟩
          have h6 : All w w6 [rRow 0 5 A7 W.length c7 (cB W), rRow 0 5 A6 (enc bs.length ++ bs).length c6 (cB (enc bs.length ++ bs)), rWr w.heap.size A3 c3 (W ++ (enc bs.length ++ bs)), rWr (w.heap.size + 1) none 0 []] := (h5.row hch6 hown6).front 2 rfl
          have hEE : (enc bs.length ++ bs).length ≤ 9 + bs.length := by simp; omega
          generalize enc bs.length ++ bs = E at *
          clear h5 hown6 hch6 hcw5 hsl
          go_wp2_with (at_builtin; refine wpList_append_rd _ rfl (.tmp 49) (.tmp 54) 23 (by rfl) 0 5 i0 _ 1 1 Try.underlying23 hi hz0 hz1 hz2 rfl (by omega) (.slice A7 W.length c7) W.length (cB W) (by rfl) (h6.get 0 rfl) A6 E.length c6 (cB E) (by rfl) (Rd.of_own (h6.get 1 rfl)) (cB_one _) (by unfold maxLen; omega) (by omega) (Nat.zero_le _) ?_; intro A8 c8 w8 hown8 hg8 hb8)
          have h8 := h6.grown hg8 hb8 hown8
          go_roundw
          case rel =>
            refine ⟨k + 1, W ++ E, A3, c3, A8, c8, by omega, by go_num, by simp, HW', ?_⟩
            rw [cB_app, List.length_append]
            exact (h8.front 1 rfl).tail.front 1 rfl
          case measure => simp [intOf]; omega
        · obtain rfl : k = ls.length := by omega
          have HW2 := HW.out
          rw [List.take_length] at HW2
          have HWE := Lib.hid HW2
          clear HW HW2
          have hWl : W.length ≤ 16000 := by
            have := HLT.out.2.2 ls.length
            rw [List.take_length, ← HWE.out] at this
            exact this
          have HTR : Hid (∀ k (h : k < ls.length), takeRow (encRows ((ls.drop k).map SlB.bs) ++ raw) false = (ls[k].bs, encRows ((ls.drop (k + 1)).map SlB.bs) ++ raw, false)) := fun k h => by
            rw [List.drop_eq_getElem_cons h, List.map_cons, encRows_cons, List.append_assoc]
            exact takeRow_enc (by have := HLT.out.2.1 _ (List.getElem_mem h); omega)
          have HLR : Hid (∀ k, (encRows ((ls.drop k).map SlB.bs)).length ≤ 16000) := fun k => by
            have h1 := HLT.out.2.2 ls.length
            rw [List.take_length] at h1
            have h2 : encRows (ls.map SlB.bs) = encRows ((ls.take k).map SlB.bs) ++ encRows ((ls.drop k).map SlB.bs) := by
              rw [← encRows_app, ← List.map_append, List.take_append_drop]
            rw [h2] at h1
            simp at h1 ⊢
            omega
          have HD0 : Hid (W ++ raw = encRows ((ls.drop 0).map SlB.bs) ++ raw) := by unfold Hid; rw [HWE.out]; rfl
          have HDn : Hid (encRows ((ls.drop ls.length).map SlB.bs) ++ raw = raw) := by unfold Hid; rw [List.drop_length]; rfl
          have h1 : All w wr [rWr (w.heap.size + 1) none 0 [], rWr w.heap.size A1 c1 W, rRow 0 5 A7 W.length c7 (cB W)] := h0.front 2 rfl
          clear h0
          go_wp2_with (fail)
          refine (bytes_any (w.heap.size + 1) [] wr _ none 0 A c ls [] (h1.get 0 rfl) (hr.keep0 h1.chg) (fun r h => Rd.keep0 (HRS.out r h).1 h1.chg) (fun j _ => by have := HLT.out.2.2 j; rw [List.nil_append]; omega) (Away.old hr (by simp [blk])) (fun r h => Away.old (HRS.out r h).1 (by simp [blk])) (by have := HLT.out.1; omega)).mono ?_
          rintro e w2 ⟨rfl, A2, c2, hw2⟩
          rw [List.nil_append, ← HWE.out] at hw2
          have h2 : All w w2 [rWr w.heap.size A1 c1 W, rWr (w.heap.size + 1) A2 c2 W, rRow 0 5 A7 W.length c7 (cB W)] := (h1.wr hw2).front 1 rfl
          clear h1 hw2
          go_wp2_with (fail)
          refine (raw_any w.heap.size (blk A1) w2 _ A1 c1 A' raw.length c' raw W (h2.get 0 rfl) rfl (hraw.keep0 h2.chg) (by omega) (by omega)).mono ?_
          rintro e w3 ⟨rfl, A3, c3, hw3⟩
          have h3 : All w w3 [rWr (w.heap.size + 1) A2 c2 W, rWr w.heap.size A3 c3 (W ++ raw), rRow 0 5 A7 W.length c7 (cB W)] := (h2.wr hw3).front 1 rfl
          clear h2 hw3
          go_wp2_with (fail)
          refine (raw_any (w.heap.size + 1) (blk A2) w3 _ A2 c2 A' raw.length c' raw W (h3.get 0 rfl) rfl (hraw.keep0 h3.chg) (by omega) (by omega)).mono ?_
          rintro e w4 ⟨rfl, A4, c4, hw4⟩
          have h4 : All w w4 [rRow 0 5 A7 W.length c7 (cB W), rWr (w.heap.size + 1) A4 c4 (W ++ raw), rWr w.heap.size A3 c3 (W ++ raw)] := (h3.wr hw4).front 2 rfl
          clear h3 hw4
          go_wp2_with (at_builtin; refine wpList_append_rd _ rfl (.tmp 62) (.tmp 63) 23 (by rfl) 0 5 i0 _ 1 1 Try.underlying23 hi hz0 hz1 hz2 rfl (by omega) (.slice A7 W.length c7) W.length (cB W) (by rfl) (h4.get 0 rfl) A' raw.length c' (cB raw) (by rfl) (hraw.keep0 h4.chg) (cB_one _) (by unfold maxLen; omega) (by omega) (Nat.zero_le _) ?_; intro A5 c5 w5 hown5 hg5 hb5; have h5 := h4.grown hg5 hb5 hown5)
          have e5 : W.length + raw.length = (W ++ raw).length := by simp
          rw [← cB_app, e5] at h5
          have hlX : (W ++ raw).length ≤ 20000 := by simp; omega
          have HD0' := HD0.out
          clear h4 hown5 hg5 hb5
          rw [e5]
          clear e5
          generalize W ++ raw = X at *
          refine (out_any w.heap.size w5 (blk A3) _ A3 c3 _ (h5.get 2 rfl) (by omega)).mono ?_
          rintro e w6 ⟨A6, c6, rfl, hown6, hch6⟩
          have h6 := h5.row hch6 hown6
          clear h5 hch6 hown6
          have HX := Lib.hid HD0'
          clear HD0'
          go_wp2_with (fail)
          refine (same_any _ A6 A5 _ _ c6 c5 X X rfl rfl (Rd.of_own (h6.get 0 rfl)) (Rd.of_own (h6.get 1 rfl)) (by omega)).mono ?_
          rintro e w8 ⟨rfl, hch8⟩
          have h8 := h6.quiet hch8
          clear h6 hch8
          rw [decide_eq_true rfl]
          go_wp2_with (fail)
          refine (out_any (w.heap.size + 1) w8 (blk A4) _ A4 c4 _ (h8.get 2 rfl) (by omega)).mono ?_
          rintro e w9 ⟨A9, c9, rfl, hown9, hch9⟩
          have h9 := h8.row hch9 hown9
          clear h8 hch9 hown9
          go_wp2_with (fail)
          refine (same_any _ A9 A5 _ _ c9 c5 X X rfl rfl (Rd.of_own (h9.get 0 rfl)) (Rd.of_own (h9.get 2 rfl)) (by omega)).mono ?_
          rintro e w10 ⟨rfl, hch10⟩
          have h10 := h9.quiet hch10
          clear h9 hch10
          rw [decide_eq_true rfl]
          go_wp2_with (fail)
          refine (newReader_any _ A5 _ c5 X rfl (Rd.of_own (h10.get 2 rfl)) (by omega)).mono ?_
          rintro e w11 ⟨B11, S11, A11, c11, rfl, hr11, hch11, hB11, hS11, hn11⟩
          have h11 := h10.newRdr hr11 hch11 hB11 hS11 hn11
          have hcx := h11.chg
          have h12 : All w w11 [rRdr 62 B11 S11 A11 c11 X false] := (((((h11.front 1 rfl).tail.front 1 rfl).tail.front 1 rfl).tail.front 1 rfl).tail.front 1 rfl).tail
          clear h10 h11 hr11 hch11 hB11 hS11 hn11 hcx
          go_wp2_with (fail)
          go_loopw [11] (fun i wr => ∃ (k : Nat) (A' : Option Addr) (c' : Nat), k ≤ ls.length ∧ i = .int .i64 k ∧ All w wr [rRdr 62 B11 S11 A' c' (encRows ((ls.drop k).map SlB.bs) ++ raw) false]) (fun i _ => ls.length - (intOf i).toNat)
          case atStart => exact ⟨0, A11, c11, Nat.zero_le _, rfl, by rw [← HX.out]; exact h12⟩
          case round =>
            obtain ⟨k, A9, c9, hk, rfl, h0⟩ := hrel
            by_cases hlt : k < ls.length
            · have HTk := Lib.hid (HTR.out k hlt)
              have hLk := HLR.out k
              obtain ⟨ad, u, rfl, had, hu, hc⟩ := hr.get hlt
              rw [cR_get hlt] at hu
              have hrow : RdB w ls[k] := (HRS.out _ (List.getElem_mem hlt)).1
              have hbs := HLT.out.2.1 _ (List.getElem_mem hlt)
              generalize ls[k] = r at *
              obtain rfl : Value.slice r.A r.bs.length r.c = u := by simpa using hu
              obtain ⟨rA, rc, bs⟩ := r
              simp only [RdB] at hrow hc hbs HTk
              clear hu
              have Hrow := Lib.hid hrow
              clear hrow
              have Hcw : Hid (∀ w', Chg [] w w' → w'.cell? (ad.add k) = some (.slice rA bs.length rc)) := fun w' h => (h.cell (p := ad.add k) (by rw [add_block]; exact had) (by simp)).trans hc
              clear hc
              have hXl : (encRows ((ls.drop k).map SlB.bs) ++ raw).length ≤ 20000 := by simp at hLk ⊢; omega
              generalize encRows ((ls.drop k).map SlB.bs) ++ raw = X1 at *
              generalize hX2 : encRows ((ls.drop (k + 1)).map SlB.bs) ++ raw = X2 at *
              have HX2 := Lib.hid hX2
              clear hX2
              go_wp2_with (fail)
              refine (rbytes_any B11 S11 wr _ A9 c9 X1 false (h0.get 0 rfl).1 (by omega)).mono ?_
              rw [HTk.out]
              rintro e w2 ⟨A2, c2, rfl, hown2, A3, c3, hr2⟩
              have h2 := h0.rdrRow hr2 hown2
              have hcw2 := Hcw.out w2 h2.chg
              clear h0 hr2 hown2
              go_wp2_with (fail)
              refine (same_any _ A2 rA _ _ c2 rc bs bs rfl rfl (Rd.of_own (h2.get 0 rfl)) (Rd.keep0 Hrow.out h2.chg) (by omega)).mono ?_
              rintro e w3 ⟨rfl, hch3⟩
              have h3 := h2.quiet hch3
              clear h2 hch3
              rw [decide_eq_true rfl]
              go_wp2_with (fail)
              refine (spoil_any _ 0 A2 _ c2 _ (h3.get 0 rfl) (by omega) (Nat.zero_le _)).mono ?_
              rintro e w4 ⟨rfl, hch4⟩
              have h4 := h3.ruin hch4
              clear h3 hch4
              go_wp2_with (fail)
              go_roundw
              case rel => exact ⟨k + 1, A3, c3, by omega, by go_num, by rw [HX2.out]; exact h4⟩
              case measure => simp [intOf]; omega
            · obtain rfl : k = ls.length := by omega
              rw [HDn.out] at h0
              have HT : Hid (takeRaw raw false (raw.length : Int) = (raw, [], false)) := by
                unfold Hid takeRaw
                rw [if_pos ⟨by omega, by omega⟩]
                simp
              go_wp2_with (go_at_call 31; refine (left_any B11 S11 wr _ A9 c9 _ _ (h0.get 0 rfl).1).mono ?_; rintro e w' ⟨rfl, rfl⟩)
              refine (rraw_any B11 S11 wr _ A9 c9 raw false _ (h0.get 0 rfl).1 (by omega)).mono ?_
              rw [HT.out]
              rintro e w2 ⟨A2, c2, rfl, hown2, A3, c3, hr2⟩
              have h2 := h0.rdrRow hr2 hown2
              clear h0 hr2 hown2
              go_wp2_with (fail)
              refine (same_any _ A2 A' _ _ c2 c' raw raw rfl rfl (Rd.of_own (h2.get 0 rfl)) (hraw.keep0 h2.chg) (by omega)).mono ?_
              rintro e w3 ⟨rfl, hch3⟩
              have h3 := h2.quiet hch3
              clear h2 hch3
              rw [decide_eq_true rfl]
              go_wp2_with (first
                | (go_at_call 20; refine (whole_any B11 S11 w3 _ A3 c3 _ _ (h3.get 1 rfl).1).mono ?_; rintro e w' ⟨rfl, rfl⟩)
                | (go_at_call 11; refine (known_any _).mono ?_; rintro e wk ⟨rfl, hchk⟩))
              go_ret
              exact ⟨rfl, h3.chg.trans hchk (by simp)⟩
end Go.Proofs.Ytghabhhnhalpgaa
