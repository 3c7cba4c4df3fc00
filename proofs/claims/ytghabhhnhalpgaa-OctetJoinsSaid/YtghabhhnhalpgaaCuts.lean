/-
  OctetCuts: the walk of the law.
-/
import Derived.Test.YtghabhhnhalpgaaCutsP
namespace Go.Proofs.Ytghabhhnhalpgaa
open Go.RowKit
set_option linter.unusedVariables false

theorem info64 : (Try.prog.info? 3).map (fun i => (i.zero, i.size, i.bytes)) = some (some (.int .i64 0), 1, 8) := by kernel_rfl
theorem and30 (v : Int) : ∃ m : Nat, bits .and .i64 v 1073741823 = (m : Int) ∧ m ≤ 1073741823 := by
  have h : (BitVec.ofInt 64 v &&& BitVec.ofInt 64 1073741823).toNat ≤ 1073741823 := by
    rw [BitVec.toNat_and]
    refine Nat.le_trans Nat.and_le_right ?_
    decide
  refine ⟨_, ?_, h⟩
  show IntKind.i64.wrap ((BitVec.ofInt 64 v &&& BitVec.ofInt 64 1073741823).toNat : Int) = _
  rw [IntKind.wrap_i64]
  omega

set_option maxRecDepth 100000 in
set_option maxHeartbeats 6400000 in
theorem cuts_law (w : World) (A : Option Addr) (c : Nat) (ls : List SlB) (hr : Rd w 1 A ls.length (cR ls)) (hlc : ls.length ≤ c) (hcm : c ≤ maxLen) (hrs : ∀ r ∈ ls, RdB w r ∧ r.bs.length ≤ r.c ∧ r.c ≤ maxLen)
    (v : Int) (hv : (Lit.int .i64 v).wf = true) :
    Calls Try.prog 8 #[.slice A ls.length c, .int .i64 v] w fun e w' => e = .returned (.bool true) ∧ Chg [] w w' := by
  unfold maxLen at hcm
  have hls : ls.length ≤ 9223372036854775807 := by omega
  have HRS := Lib.hid hrs
  have hbl : ∀ r ∈ ls, r.bs.length ≤ 9223372036854775807 := fun r h => by have := HRS.out r h; unfold maxLen at this; omega
  have HBL := Lib.hid hbl
  clear hrs hbl
  obtain ⟨i0, hi, hz0, hz1, hz2⟩ := info_parts info8
  obtain ⟨j0, ji, jz0, jz1, jz2⟩ := info_parts info64
  have hvb := bounds_i64 hv
  obtain ⟨m, eand, hm⟩ := and30 v
  go_enter Try.func8, Try.ntmps8
  go_wp2_with (fail)
  refine (heavyRows_any _ A ls.length c ls rfl hr hls HBL.out).mono ?_
  rintro e w1 ⟨hv, rfl, hlight, rfl⟩
  cases hv with
  | true =>
    go_wp2_with (fail)
    go_ret
    exact ⟨rfl, Chg.refl _ _⟩
  | false =>
    have HLT := Lib.hid (light (hlight rfl))
    clear hlight
    by_cases hz : ls.length = 0
    · have hzb : ((ls.length : Int) == 0) = true := by rw [hz]; rfl
      clear hz
      go_wp2_with (fail)
      go_ret
      exact ⟨rfl, Chg.refl _ _⟩
    · have hzb : ((ls.length : Int) == 0) = false := by rw [beq_eq_false_iff_ne]; omega
      have hpos : 0 < ls.length := by omega
      clear hz
      have HE : Hid (∀ k, k < ls.length → endAt (ls.map SlB.bs) (k + 1) = endAt (ls.map SlB.bs) k + (enc (ls.map SlB.bs)[k]!.length ++ (ls.map SlB.bs)[k]!).length) := by
        intro k hk
        rw [endAt_succ (by simpa using hk)]
        simp [hk]
      clear HE
      go_wp2_with (fail)
      go_loopw [7, 5, 6] (fun i a e wr => ∃ (k : Nat) (W : List UInt8) (A5 : Option Addr) (c5 : Nat) (A6 : Option Addr) (c6 : Nat), k ≤ ls.length ∧ i = .int .i64 k ∧ a = .slice A5 W.length c5 ∧ e = .slice A6 k c6 ∧ Hid (W = encRows ((ls.map SlB.bs).take k)) ∧
        All w wr [rRow 0 5 A5 W.length c5 (cB W), rRow 0 3 A6 k c6 (cI ((List.range k).map fun j => (endAt (ls.map SlB.bs) (j + 1) : Int)))]) (fun i _ _ _ => ls.length - (intOf i).toNat)
      case atStart =>
        have h1 := ((All.start w).row (Chg.refl _ _) (World.ownsRow_nil w w.heap.size 3 1)).row (Chg.refl _ _) (World.ownsRow_nil w w.heap.size 5 1)
        exact ⟨0, [], none, 0, none, 0, Nat.zero_le _, rfl, rfl, rfl, by simp [Hid, encRows], h1⟩
      case round =>
        obtain ⟨k, W, A5, c5, A6, c6, hk, rfl, rfl, rfl, HW, h0⟩ := hrel
        by_cases hlt : k < ls.length
        · obtain ⟨ad, u, rfl, had, hu, hc⟩ := (hr.keep0 h0.chg).get hlt
          rw [cR_get hlt] at hu
          have hrow : RdB w ls[k] := (HRS.out _ (List.getElem_mem hlt)).1
          have hbs := HLT.out.2.1 _ (List.getElem_mem hlt)
          have hWl := HLT.out.2.2 k
          rw [← List.map_take] at HW
          rw [← HW.out] at hWl
          have hEs : Hid (endAt (ls.map SlB.bs) (k + 1) = W.length + (enc ls[k].bs.length ++ ls[k].bs).length) := by
            unfold Hid
            rw [endAt_succ (by simpa using hlt)]
            unfold endAt
            rw [← List.map_take, ← HW.out]
            simp
          have HW' : Hid (W ++ (enc ls[k].bs.length ++ ls[k].bs) = encRows ((ls.map SlB.bs).take (k + 1))) := by
            unfold Hid
            rw [HW.out, ← List.map_take, List.take_succ_eq_append_getElem hlt, List.map_append, List.map_singleton, encRows_snoc]
          generalize ls[k] = r at *
          obtain rfl : Value.slice r.A r.bs.length r.c = u := by simpa using hu
          obtain ⟨rA, rc, bs⟩ := r
          simp only [RdB] at hrow hc hbs HW' hEs
          clear hu
          have Hrow := Lib.hid hrow
          clear hrow
          have hE9 := enc_len9 (show bs.length ≤ 4611686018427387904 by omega)
          go_wp2_with (fail)
          refine (refBytes_any _ rA bs.length rc bs rfl (Rd.keep0 Hrow.out h0.chg) (by omega)).mono ?_
          rintro e w6 ⟨A3, c3, rfl, hown3, hch3⟩
          have h3 : All w w6 [rRow 0 5 A5 W.length c5 (cB W), rRow 0 5 A3 (enc bs.length ++ bs).length c3 (cB (enc bs.length ++ bs)), rRow 0 3 A6 k c6 (cI ((List.range k).map fun j => (endAt (ls.map SlB.bs) (j + 1) : Int)))] := (h0.row hch3 hown3).front 1 rfl
          have hEE : (enc bs.length ++ bs).length ≤ 9 + bs.length := by simp; omega
          generalize enc bs.length ++ bs = E at *
          clear h0 hown3 hch3 hc
          go_wp2_with (first
            | (at_builtin
               refine wpList_append_rd _ rfl (.tmp 25) (.tmp 30) 23 (by rfl) 0 5 i0 _ 1 1 Try.underlying23 hi hz0 hz1 hz2 rfl (by omega) (.slice A5 W.length c5) W.length (cB W) (by rfl) (h3.get 0 rfl) A3 E.length c3 (cB E) (by rfl) (Rd.of_own (h3.get 1 rfl)) (cB_one _) (by unfold maxLen; omega) (by omega) (Nat.zero_le _) ?_
               intro A8 c8 w8 hown8 hg8 hb8
               have h8 := h3.grown hg8 hb8 hown8
               have h9 := (((h8.front 1 rfl).tail).front 1 rfl).quiet ((Chg.refl [] w8).alloc (.cells #[.int .i64 ((W.length : Int) + (E.length : Int))] 3)))
            | (at_builtin
               refine wpList_append_rd _ rfl (.tmp 32) (.tmp 35) 30 (by rfl) 0 3 j0 _ 1 8 Try.underlying30 ji jz0 jz1 jz2 rfl (by omega) (.slice A6 k c6) k _ (by rfl) (h9.get 0 rfl) (some ⟨w8.heap.size, 0, none⟩) 1 1 [.int .i64 _] (by rfl) (Rd.of_at (At.new _ _ _) rfl) (by simp [Value.oneCell']) (by unfold maxLen; have := HLT.out.1; omega) (by have := HLT.out.1; omega) (Nat.zero_le _) ?_
               intro A9 c9 w9 hown9 hg9 hb9
               have h10 := (h9.grown hg9 hb9 hown9).front 1 rfl))
          go_roundw
          case rel =>
            refine ⟨k + 1, W ++ E, A8, c8, A9, c9, by omega, by go_num, by simp, rfl, HW', ?_⟩
            rw [cB_app, List.length_append, List.range_succ, List.map_append, List.map_singleton]
            have e : cI (((List.range k).map fun j => (endAt (ls.map SlB.bs) (j + 1) : Int)) ++ [(endAt (ls.map SlB.bs) (k + 1) : Int)]) = cI ((List.range k).map fun j => (endAt (ls.map SlB.bs) (j + 1) : Int)) ++ [.int .i64 ((W.length : Int) + (E.length : Int))] := by
              rw [hEs.out]; simp [cI]
            rw [e]
            exact h10
          case measure => simp [intOf]; omega
        · obtain rfl : k = ls.length := by omega
          have HWE : Hid (W = encRows (ls.map SlB.bs)) := by
            have h := HW.out
            rwa [List.take_of_length_le (by simp)] at h
          have hWl : W.length ≤ 16000 := by
            have := HLT.out.2.2 ls.length
            rw [List.take_length, ← HWE.out] at this
            exact this
          have hN : 0 < W.length := by
            rw [HWE.out]
            obtain ⟨r, hrm⟩ := List.exists_mem_of_length_pos hpos
            cases ls with
            | nil => simp at hpos
            | cons a l =>
              rw [List.map_cons, encRows_cons]
              have := enc_pos a.bs.length
              simp; omega
          have HEN : Hid (endAt (ls.map SlB.bs) ls.length = W.length) := by
            unfold Hid endAt; rw [List.take_of_length_le (by simp), HWE.out]
          have hcut : m % W.length < W.length := Nat.mod_lt _ hN
          have ecut : ((m : Int) % (W.length : Int)) = ((m % W.length : Nat) : Int) := rfl
          obtain ⟨cut, Hcut⟩ : ∃ cut, Hid (m % W.length = cut) := ⟨_, rfl⟩
          rw [Hcut.out] at ecut hcut
          have HST0 : Hid (cutSt (ls.map SlB.bs) cut 0 = (W.take cut, false)) := by unfold Hid; rw [cutSt_zero, HWE.out]
          have HSTn : Hid (cutSt (ls.map SlB.bs) cut ls.length = ([], true)) := by
            unfold Hid cutSt; rw [HEN.out, if_neg (by omega)]
          have HSTk : Hid (∀ k (h : k < ls.length), takeRow (cutSt (ls.map SlB.bs) cut k).1 (cutSt (ls.map SlB.bs) cut k).2 = ((if endAt (ls.map SlB.bs) (k + 1) ≤ cut then ls[k].bs else []), (cutSt (ls.map SlB.bs) cut (k + 1)).1, (cutSt (ls.map SlB.bs) cut (k + 1)).2)) := fun k h => by
            have := cutSt_step (rows := ls.map SlB.bs) (cut := cut) (k := k) (by simpa using h) (by simp; have := HLT.out.2.1 _ (List.getElem_mem h); omega)
            simpa using this
          have HSTl : Hid (∀ k, (cutSt (ls.map SlB.bs) cut k).1.length ≤ 16000) := fun k => by
            unfold cutSt
            split
            · have h1 : (encRows ((ls.map SlB.bs).drop k)).length ≤ W.length := by
                have h2 : W = encRows ((ls.map SlB.bs).take k) ++ encRows ((ls.map SlB.bs).drop k) := by rw [← encRows_app, List.take_append_drop, HWE.out]
                have := congrArg List.length h2
                simp at this ⊢; omega
              simp at h1 ⊢; omega
            · simp
          have HSTg : Hid (∀ k, endAt (ls.map SlB.bs) k ≤ cut → (cutSt (ls.map SlB.bs) cut k).2 = false) := fun k h => by unfold cutSt; rw [if_pos h]
          have HSTb : Hid (∀ k, ¬ endAt (ls.map SlB.bs) k ≤ cut → cutSt (ls.map SlB.bs) cut k = ([], true)) := fun k h => by unfold cutSt; rw [if_neg h]
          have hcap := own_cap (h0.get 0 rfl)
          have hsl := fun w => run_slice_hi (P := Try.prog) w Try.underlying23 hi A5 W.length c5 (cut : Int) cut rfl (by omega)
          have hrdW := (Rd.of_own (h0.get 0 rfl)).takeB (k := cut) (by omega)
          have hlW : (W.take cut).length = cut := by simp; omega
          go_wp2_with (fail)
          refine (newReader_any _ A5 _ c5 (W.take cut) hlW hrdW (by omega)).mono ?_
          rintro e w2 ⟨B2, S2, A2, c2, rfl, hr2, hch2, hB2, hS2, hn2⟩
          have h2 := h0.newRdr hr2 hch2 hB2 hS2 hn2
          have h3 : All w w2 [rRdr 62 B2 S2 A2 c2 (W.take cut) false, rRow 0 3 A6 ls.length c6 (cI ((List.range ls.length).map fun j => (endAt (ls.map SlB.bs) (j + 1) : Int)))] := (h2.front 1 rfl).tail
          clear h2 hr2 hch2 hB2 hS2 hn2 h0 hrdW hlW hsl
          go_wp2_with (fail)
          go_loopw [10] (fun i wr => ∃ (k : Nat) (A' : Option Addr) (c' : Nat), k ≤ ls.length ∧ i = .int .i64 k ∧ All w wr [rRdr 62 B2 S2 A' c' (cutSt (ls.map SlB.bs) cut k).1 (cutSt (ls.map SlB.bs) cut k).2, rRow 0 3 A6 ls.length c6 (cI ((List.range ls.length).map fun j => (endAt (ls.map SlB.bs) (j + 1) : Int)))]) (fun i _ => ls.length - (intOf i).toNat)
          case atStart => exact ⟨0, A2, c2, Nat.zero_le _, rfl, by rw [HST0.out]; exact h3⟩
          case round =>
            obtain ⟨k, A9, c9, hk, rfl, h0⟩ := hrel
            by_cases hlt : k < ls.length
            · have HTk := Lib.hid (HSTk.out k hlt)
              have HTg := Lib.hid (HSTg.out (k + 1))
              have HTb := Lib.hid (HSTb.out (k + 1))
              have hXl := HSTl.out k
              obtain ⟨ad, u, rfl, had, hu, hc⟩ := hr.get hlt
              rw [cR_get hlt] at hu
              have hrow : RdB w ls[k] := (HRS.out _ (List.getElem_mem hlt)).1
              have hbs := HLT.out.2.1 _ (List.getElem_mem hlt)
              generalize ls[k] = r at *
              obtain rfl : Value.slice r.A r.bs.length r.c = u := by simpa using hu
              obtain ⟨rA, rc, bs⟩ := r
              simp only [RdB] at hrow hc hbs HTk
              clear hu
              have Hrow := Lib.hid hrow
              clear hrow
              have Hcw : Hid (∀ w', Chg [] w w' → w'.cell? (ad.add k) = some (.slice rA bs.length rc)) := fun w' h => (h.cell (p := ad.add k) (by rw [add_block]; exact had) (by simp)).trans hc
              clear hc
              obtain ⟨E1, HE1⟩ : ∃ E1, Hid (endAt (ls.map SlB.bs) (k + 1) = E1) := ⟨_, rfl⟩
              rw [HE1.out] at HTk HTg HTb
              generalize hs1 : cutSt (ls.map SlB.bs) cut k = st1 at *
              clear hs1
              generalize hs2 : cutSt (ls.map SlB.bs) cut (k + 1) = st2 at *
              have Hs2 := Lib.hid hs2
              clear hs2
              go_wp2_with (fail)
              refine (rbytes_any B2 S2 wr _ A9 c9 st1.1 st1.2 (h0.get 0 rfl).1 (by omega)).mono ?_
              rw [HTk.out]
              rintro e w2 ⟨A2, c2, rfl, hown2, A3, c3, hr2⟩
              have h2 : All w w2 [rRow 0 3 A6 ls.length c6 (cI ((List.range ls.length).map fun j => (endAt (ls.map SlB.bs) (j + 1) : Int))), rRow 0 5 A2 (if E1 ≤ cut then bs else []).length c2 (cB (if E1 ≤ cut then bs else [])), rRdr 62 B2 S2 A3 c3 st2.1 st2.2] := (h0.rdrRow hr2 hown2).front 2 rfl
              have hcw2 := Hcw.out w2 h2.chg
              obtain ⟨g6, hg6, _, _, hcell6, _⟩ := own_cells (h2.get 0 rfl) hpos
              subst hg6
              have hce : w2.cell? ⟨g6, k, none⟩ = some (.int .i64 (E1 : Int)) := hcell6 k _ (by
                rw [← HE1.out]
                simp [cI, hlt])
              clear hcell6 h0 hr2 hown2
              by_cases hE : E1 ≤ cut
              · rw [if_pos hE] at h2 ⊢
                have hg := HTg.out hE
                obtain ⟨sL, sb⟩ := st2
                simp only at hg h2
                subst hg
                go_wp2_with (fail)
                refine (same_any _ A2 rA _ _ c2 rc bs bs rfl rfl (Rd.of_own (h2.get 1 rfl)) (Rd.keep0 Hrow.out h2.chg) (by omega)).mono ?_
                rintro e w3 ⟨rfl, hch3⟩
                have h3 := (((h2.quiet hch3).front 1 rfl).tail).front 1 rfl
                clear h2 hch3 hce hcw2
                rw [decide_eq_true rfl]
                go_wp2_with (go_at_call 19; refine (good_any B2 S2 w3 _ A3 c3 _ _ (h3.get 0 rfl).1).mono ?_; rintro e w' ⟨rfl, rfl⟩)
                go_roundw
                case rel => exact ⟨k + 1, A3, c3, by omega, by go_num, by rw [Hs2.out]; exact h3⟩
                case measure => simp [intOf]; omega
              · rw [if_neg hE] at h2 ⊢
                have hg := HTb.out hE
                subst hg
                have h3 := ((h2.front 1 rfl).tail).front 1 rfl
                clear h2 hcw2
                go_wp2_with (first
                  | (go_at_call 19; refine (good_any B2 S2 w2 _ A3 c3 _ _ (h3.get 0 rfl).1).mono ?_; rintro e w' ⟨rfl, rfl⟩)
                  | (go_at_call 31; refine (left_any B2 S2 w2 _ A3 c3 _ _ (h3.get 0 rfl).1).mono ?_; rintro e w' ⟨rfl, rfl⟩))
                go_roundw
                case rel => exact ⟨k + 1, A3, c3, by omega, by go_num, by rw [Hs2.out]; exact h3⟩
                case measure => simp [intOf]; omega
            · obtain rfl : k = ls.length := by omega
              rw [HSTn.out] at h0
              have hT0 : takeNum [] true = (0, [], true) := rfl
              go_wp2_with (go_at_call 20; refine (whole_any B2 S2 wr _ A9 c9 _ _ (h0.get 0 rfl).1).mono ?_; rintro e w' ⟨rfl, rfl⟩)
              refine (num_any B2 S2 wr _ A9 c9 _ _ (h0.get 0 rfl).1 (by simp)).mono ?_
              rw [hT0]
              rintro e w2 ⟨rfl, A3, c3, hr2⟩
              have h2 := h0.rdr hr2
              go_wp2_with (go_at_call 11; refine (known_any _).mono ?_; rintro e wk ⟨rfl, hchk⟩)
              go_ret
              exact ⟨rfl, h2.chg.trans hchk (by simp)⟩
end Go.Proofs.Ytghabhhnhalpgaa
