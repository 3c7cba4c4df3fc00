/-
  OctetTakes: the walk of the law.
-/
import Derived.Test.YtghabhhnhalpgaaRows1
import Derived.Test.YtghabhhnhalpgaaRef1S
import Derived.Test.YtghabhhnhalpgaaOctR3
import Derived.Deep.RegionWith
import Derived.Deep.DeepCutAuto
import Derived.Deep.CutBlock
import Derived.Deep.RegionHeld3
namespace Go.Proofs.Ytghabhhnhalpgaa
open Go.RowKit
set_option linter.unusedVariables false

set_option maxRecDepth 100000 in
set_option maxHeartbeats 6400000 in
theorem takes_law (w : World) (A : Option Addr) (c : Nat) (bs : List UInt8) (hr : Rd w 1 A bs.length (cB bs)) (hlc : bs.length ≤ c) (hcm : c ≤ maxLen)
    (Ak : Option Addr) (nk ck : Nat) (ks : List Int) (hnk : ks.length = nk) (hk : Rd w 1 Ak nk (ks.map (Value.int .i64))) (hkc : nk ≤ ck) (hkm : ck ≤ maxLen) (hkw : ∀ z ∈ ks, (Lit.int .i64 z).wf = true)
    (An : Option Addr) (nn cn : Nat) (ns : List Int) (hnn : ns.length = nn) (hn : Rd w 1 An nn (ns.map (Value.int .i64))) (hnc : nn ≤ cn) (hnm : cn ≤ maxLen) (hnw : ∀ z ∈ ns, (Lit.int .i64 z).wf = true) :
    Calls Try.prog 10 #[.slice A bs.length c, .slice Ak nk ck, .slice An nn cn] w fun e w' => e = .returned (.bool true) ∧ Chg [] w w' := by
  subst hnk hnn
  unfold maxLen at hcm hkm hnm
  have hk : Rd w 1 Ak ks.length (cI ks) := hk
  have hn : Rd w 1 An ns.length (cI ns) := hn
  clear hkw hnw
  obtain ⟨i0, hi, hz0, hz1, hz2⟩ := info_parts info8
  by_cases hb : 4000 < bs.length
  · go_enter Try.func10, Try.ntmps10
    go_wp2_with (fail)
    go_ret
    exact ⟨rfl, Chg.refl _ _⟩
  · by_cases hb2 : 200 < ks.length
    · go_enter Try.func10, Try.ntmps10
      go_wp2_with (fail)
      go_ret
      exact ⟨rfl, Chg.refl _ _⟩
    · by_cases hb3 : ns.length < ks.length
      · go_enter Try.func10, Try.ntmps10
        go_wp2_with (fail)
        go_ret
        exact ⟨rfl, Chg.refl _ _⟩
      · go_enter Try.func10, Try.ntmps10
        go_wp2_with (fail)
        refine (roomy_any _ A bs.length c bs rfl hr (by omega)).mono ?_
        rintro e w2 ⟨A7, c7, rfl, hown7, hch7⟩
        have h1 := (All.start w).row hch7 hown7
        have hcap7 := own_cap hown7
        have hsl := fun w => run_slice_hi (P := Try.prog) w Try.underlying23 hi A7 (bs.length + 1) c7 (bs.length : Int) bs.length rfl (by omega)
        have hpre : Rd w2 1 A7 bs.length (cB bs) := by
          have h := Rd.of_own (own_prefix hown7 (m := bs.length) (by omega))
          have e : (cB (bs ++ [171])).take bs.length = cB bs := by
            rw [cB_app, List.take_append_of_le_length (by simp [cB_len]), List.take_of_length_le (by simp [cB_len])]
          rw [e] at h
          exact h
        clear hown7 hch7
        go_wp2_with (fail)
        refine (newReader_any _ A7 _ c7 bs rfl hpre (by omega)).mono ?_
        rintro e w3 ⟨B3, S3, A3, c3, rfl, hr3, hch3, hB3, hS3, hn3⟩
        have h3 := h1.newRdr hr3 hch3 hB3 hS3 hn3
        have hr' := hr.keep0 h3.chg
        clear h1 hr3 hch3 hB3 hS3 hn3 hpre hsl
        go_wp2_with (at_builtin; refine wpList_append_rd _ rfl (.tmp 40) (.tmp 41) 23 (by rfl) w3.heap.size 5 i0 _ 1 1 Try.underlying23 hi hz0 hz1 hz2 rfl (by omega) (.slice (some ⟨w3.heap.size, 0, none⟩) 0 0) 0 [] (by rfl) (World.ownsRow_made w3 #[] 0 (Nat.le_refl _) (by simp [maxLen]) rfl) A bs.length c (cB bs) (by rfl) (hr'.alloc _) (cB_one _) (by unfold maxLen; omega) (by omega) (by simp) ?_; intro A4 c4 w4 hown4 hg4 hb4; simp only [Nat.zero_add, List.nil_append] at hown4; have hch4 : Chg [] w3 w4 := ((Chg.refl [] w3).alloc _).grown hg4 (fun k hk => .inr (by simp [Value.ownBlock] at hk; omega)))
        have h4 : All w (w4.alloc (.cells #[.slice A4 bs.length c4, .bool false] 57)) [rRdr 57 w4.heap.size (blk A4) A4 c4 bs false, rRdr 62 B3 S3 A3 c3 bs false, rRow 0 5 A7 (bs.length + 1) c7 (cB (bs ++ [171]))] := by
          refine h3.newRdr ⟨At.new _ _ _, (Rd.of_own hown4).alloc _, own_cap hown4, Chg.refl _ _, fun _ hx => hx, ?_, by simp⟩ (hch4.alloc _) hch4.size ?_ (blk_nodup _)
          · intro hm
            have := (own_in hown4 _ hm).2
            omega
          · intro x hx
            have := own_in hown4 _ hx
            simp
            omega
        have h5 : All w (w4.alloc (.cells #[.slice A4 bs.length c4, .bool false] 57)) [rRdr 62 B3 S3 A3 c3 bs false, rRdr 57 w4.heap.size (blk A4) A4 c4 bs false, rRow 0 5 A7 (bs.length + 1) c7 (cB (bs ++ [171]))] := h4.front 1 rfl
        obtain ⟨B4, HB4⟩ : ∃ B4, Hid (w4.heap.size = B4) := ⟨_, rfl⟩
        obtain ⟨S4, HS4⟩ : ∃ S4, Hid (blk A4 = S4) := ⟨_, rfl⟩
        rw [HB4.out, HS4.out] at h5
        rw [HB4.out]
        clear h3 h4 hown4 hg4 hb4 hch4 hr'
        go_loopg [10] ks.length (fun g i wr => ∃ (k : Nat) (A' : Option Addr) (c' : Nat) (A'' : Option Addr) (c'' : Nat) (L : List UInt8) (b : Bool), g = ks.length - k ∧ k ≤ ks.length ∧ i = .int .i64 k ∧ L.length ≤ 4000 ∧
          All w wr [rRdr 62 B3 S3 A' c' L b, rRdr 57 B4 S4 A'' c'' L b, rRow 0 5 A7 (bs.length + 1) c7 (cB (bs ++ [171]))])
        case atStart => exact ⟨0, A3, c3, A4, c4, bs, false, rfl, Nat.zero_le _, rfl, by omega, h5⟩
        case round =>
          obtain ⟨k, A5, c5, A6, c6, L, b, hg, hkl, rfl, hL, h0⟩ := hrel
          by_cases hlt : k < ks.length
          · obtain ⟨ad, u, rfl, had, hu, hcz⟩ := (hk.keep0 h0.chg).get hlt
            rw [cI_get hlt] at hu
            obtain ⟨ad2, u2, rfl, had2, hu2, hc2⟩ := hn.get (show k < ns.length by omega)
            rw [cI_get (show k < ns.length by omega)] at hu2
            generalize ks[k] = z at *
            generalize ns[k] = q at *
            obtain rfl : Value.int .i64 z = u := by simpa using hu
            obtain rfl : Value.int .i64 q = u2 := by simpa using hu2
            clear hu hu2
            have Hcq : Hid (∀ w', Chg [] w w' → w'.cell? (ad2.add k) = some (.int .i64 q)) := fun w' h => (h.cell (p := ad2.add k) (by rw [add_block]; exact had2) (by simp)).trans hc2
            clear hc2
            have Hg := Lib.hid hg
            clear hg
            go_upto_block 2 with (fail)
            go_cut [11] (fun s11 wx => ∃ (A' : Option Addr) (c' : Nat) (A'' : Option Addr) (c'' : Nat) (L : List UInt8) (b : Bool), s11 = .bool true ∧ L.length ≤ 4000 ∧
              All w wx [rRdr 62 B3 S3 A' c' L b, rRdr 57 B4 S4 A'' c'' L b, rRow 0 5 A7 (bs.length + 1) c7 (cB (bs ++ [171]))])
            case first =>
              have hR0 := (h0.get 0 rfl).1
              have hlN := takeNum_len L b
              by_cases z1 : z = 1
              · subst z1
                go_wp2_with (fail)
                refine (num_any B3 S3 wr _ A5 c5 L b hR0 (by omega)).mono ?_
                rintro e w5 ⟨rfl, A8, c8, hr5⟩
                have h1 : All w w5 [rRdr 57 B4 S4 A6 c6 L b, rRdr 62 B3 S3 A8 c8 (takeNum L b).2.1 (takeNum L b).2.2, rRow 0 5 A7 (bs.length + 1) c7 (cB (bs ++ [171]))] := (h0.rdr hr5).front 1 rfl
                go_wp2_with (fail)
                refine (fnum_any B4 S4 w5 _ A6 c6 L b (h1.get 0 rfl).1 (by omega)).mono ?_
                rintro e w6 ⟨rfl, A9, c9, hr6⟩
                have h2 := (h1.rdr hr6).front 1 rfl
                clear h0 h1 hr5 hr6 hR0
                go_wp2_with (fail)
                go_meet
                exact ⟨A8, c8, A9, c9, _, _, rfl, by omega, h2⟩
              · by_cases z2 : z = 2
                · subst z2
                  have hlR : (takeRow L b).1.length ≤ L.length ∧ (takeRow L b).2.1.length ≤ L.length := by
                    have h3 := takeRaw_len (takeNum L b).2.1 (takeNum L b).2.2 ((takeNum L b).1 : Int)
                    exact ⟨Nat.le_trans h3.2 hlN, Nat.le_trans h3.1 hlN⟩
                  go_wp2_with (fail)
                  refine (rbytes_any B3 S3 wr _ A5 c5 L b hR0 (by omega)).mono ?_
                  rintro e w5 ⟨A10, c10, rfl, hown5, A8, c8, hr5⟩
                  have h1 : All w w5 [rRdr 57 B4 S4 A6 c6 L b, rRow 0 5 A10 (takeRow L b).1.length c10 (cB (takeRow L b).1), rRdr 62 B3 S3 A8 c8 (takeRow L b).2.1 (takeRow L b).2.2, rRow 0 5 A7 (bs.length + 1) c7 (cB (bs ++ [171]))] := (h0.rdrRow hr5 hown5).front 2 rfl
                  clear h0 hr5 hown5 hR0
                  go_wp2_with (fail)
                  refine (fbytes_any B4 S4 w5 _ A6 c6 L b (h1.get 0 rfl).1 (by omega)).mono ?_
                  rintro e w6 ⟨A11, c11, rfl, hown6, A9, c9, hr6⟩
                  have h2 := h1.rdrRow hr6 hown6
                  clear h1 hr6 hown6
                  go_wp2_with (fail)
                  refine (same_any _ A10 A11 _ _ c10 c11 _ _ rfl rfl (Rd.of_own (h2.get 2 rfl)) (Rd.of_own (h2.get 0 rfl)) (by omega)).mono ?_
                  rintro e w7 ⟨rfl, hch7⟩
                  have h3 := (((h2.quiet hch7).tail).front 1 rfl)
                  clear h2 hch7
                  rw [decide_eq_true rfl]
                  go_wp2_with (fail)
                  refine (spoil_any _ 0 A10 _ c10 _ (h3.get 0 rfl) (by omega) (Nat.zero_le _)).mono ?_
                  rintro e w8 ⟨rfl, hch8⟩
                  have h4 := (h3.ruin hch8).front 1 rfl
                  clear h3 hch8
                  go_wp2_with (fail)
                  go_meet
                  exact ⟨A8, c8, A9, c9, _, _, rfl, by omega, h4⟩
                · by_cases z3 : z = 3
                  · subst z3
                    have hlR := takeRaw_len L b q
                    have hcq := Hcq.out wr h0.chg
                    have hk0 : (0 : Int) ≤ (k : Int) := by omega
                    have hk1 : (k : Int) < (ns.length : Int) := by omega
                    go_wp2_with (fail)
                    go_region_held3 (fun w' => w'.cell? (ad2.add k) = some (.int .i64 q)) (first | go_keep | exact Hcq.out _ (by assumption))
                      (first
                        | (go_at_call 32
                           refine (rraw_any B3 S3 wr.drew wr.drew A5 c5 L b q ((h0.quiet (Chg.refl [] wr).drew).get 0 rfl).1 (by omega)).mono ?_
                           rintro e w5 ⟨A10, c10, rfl, hown5, A8, c8, hr5⟩
                           have h1 := (((h0.quiet (Chg.refl [] wr).drew).rdrRow hr5 hown5).front 2 rfl)
                           have hc1 := h1.chg)
                        | (go_at_call 37
                           refine (fraw_any B4 S4 _ _ A6 c6 L b q (h1.get 0 rfl).1 (by omega)).mono ?_
                           rintro e w6 ⟨A11, c11, rfl, hown6, A9, c9, hr6⟩
                           have h2 := h1.rdrRow hr6 hown6
                           have hc2 := h2.chg)
                        | (go_at_call 14
                           refine (same_any _ A10 A11 _ _ c10 c11 _ _ rfl rfl (Rd.of_own (h2.get 2 rfl)) (Rd.of_own (h2.get 0 rfl)) (by omega)).mono ?_
                           rintro e w7 ⟨rfl, hch7⟩
                           have h3 := ((((h2.quiet hch7).front 2 rfl).tail).front 2 rfl)
                           have hc3 := h3.chg))
                    all_goals
                      go_wp2_with (fail)
                      go_meet
                      exact ⟨A8, c8, A9, c9, (takeRaw L b q).2.1, (takeRaw L b q).2.2, by simp, by omega, (h3.front 1 rfl).tail⟩
                  · by_cases z4 : z = 4
                    · subst z4
                      go_wp2_with (fail)
                      refine (bad_any B3 S3 wr _ A5 c5 L b hR0).mono ?_
                      rintro e w5 ⟨rfl, hr5⟩
                      have h1 : All w w5 [rRdr 57 B4 S4 A6 c6 L b, rRdr 62 B3 S3 none 0 [] true, rRow 0 5 A7 (bs.length + 1) c7 (cB (bs ++ [171]))] := (h0.rdr hr5).front 1 rfl
                      go_wp2_with (fail)
                      refine (fbad_any B4 S4 w5 _ A6 c6 L b (h1.get 0 rfl).1).mono ?_
                      rintro e w6 ⟨rfl, hr6⟩
                      have h2 := (h1.rdr hr6).front 1 rfl
                      clear h0 h1 hr5 hr6 hR0
                      go_wp2_with (fail)
                      go_meet
                      exact ⟨none, 0, none, 0, [], true, rfl, by simp, h2⟩
                    · have hzb1 : (z == 1) = false := by rw [beq_eq_false_iff_ne]; exact z1
                      have hzb2 : (z == 2) = false := by rw [beq_eq_false_iff_ne]; exact z2
                      have hzb3 : (z == 3) = false := by rw [beq_eq_false_iff_ne]; exact z3
                      have hzb4 : (z == 4) = false := by rw [beq_eq_false_iff_ne]; exact z4
                      have hl1 := numsSt_len L b 1
                      have hl2 := numsSt_len L b 2
                      have hl3 := numsSt_len L b 3
                      have HN0 : Hid ((takeNum L b).1 = numAt L b 0 ∧ (takeNum L b).2 = numsSt L b 1) := ⟨rfl, rfl⟩
                      have HN1 : Hid ((takeNum (numsSt L b 1).1 (numsSt L b 1).2).2 = numsSt L b 2) := rfl
                      have HN2 : Hid ((takeNum (numsSt L b 2).1 (numsSt L b 2).2).1 = numAt L b 2 ∧ (takeNum (numsSt L b 2).1 (numsSt L b 2).2).2 = numsSt L b 3) := ⟨rfl, rfl⟩
                      clear z1 z2 z3 z4 hlN
                      have h1 : All w ((wr.alloc (.cells #[.int .i64 7] 3)).alloc (.cells #[.int .i64 7] 3)) [rAt (wr.heap.size + 1) 3 #[.int .i64 7], rAt wr.heap.size 3 #[.int .i64 7], rRdr 62 B3 S3 A5 c5 L b, rRdr 57 B4 S4 A6 c6 L b, rRow 0 5 A7 (bs.length + 1) c7 (cB (bs ++ [171]))] := (h0.newAt _ _ rfl).newAt _ _ (by simp)
                      go_wp2_with (fail)
                      have h2 := h1.quiet ((Chg.refl [] _).alloc (.cells #[.pointer (some ⟨wr.heap.size, 0, none⟩), .pointer none, .pointer (some ⟨wr.heap.size + 1, 0, none⟩)] 58))
                      have hSl := (h0.get 0 rfl).2.2
                      have hSn := (h0.get 0 rfl).2.1
                      have hB3 := hR0.at_.lt
                      refine (rnums_any B3 S3 [wr.heap.size, wr.heap.size + 1] _ _ A5 c5 L b (h2.get 2 rfl).1 (by omega) (some ⟨wr.heap.size + 1 + 1, 0, none⟩) 3 3 [some ⟨wr.heap.size, 0, none⟩, none, some ⟨wr.heap.size + 1, 0, none⟩] rfl ?_ (by simp) ?_ ?_ ?_
                        (fun j w1 => At w1 (wr.heap.size + 1) 3 #[.int .i64 (if 2 < j then (numAt L b 2 : Int) else 7)] ∧ At w1 wr.heap.size 3 #[.int .i64 (if 0 < j then (numAt L b 0 : Int) else 7)]) ?_ ?_ ?_ ?_).mono ?_
                      · exact Rd.new' (by simp) rfl rfl
                      · refine Away.at (fun hx => ?_)
                        simp only [List.mem_cons, List.not_mem_nil, or_false] at hx
                        omega
                      · intro x hx
                        simp only [List.mem_cons, List.not_mem_nil, or_false] at hx
                        refine ⟨by omega, fun hm => ?_⟩
                        have := hSl x hm
                        omega
                      · intro ad hx
                        simp only [List.mem_cons, List.not_mem_nil, or_false, Option.some.injEq, reduceCtorEq, false_or] at hx
                        rcases hx with rfl | rfl <;> simp
                      · exact ⟨h2.get 0 rfl, h2.get 1 rfl⟩
                      · intro j w1 w2 hI hc
                        exact ⟨hI.1.keep hc (by simp; omega), hI.2.keep hc (by simp; omega)⟩
                      · intro j w1 hj hI
                        have hj1 : j = 1 := by
                          rcases j with _ | _ | _ | j
                          · simp at hj
                          · rfl
                          · simp at hj
                          · simp at hj
                        subst hj1
                        exact hI
                      · intro j w1 ad hj hI
                        rcases j with _ | _ | _ | j
                        · obtain rfl : (⟨wr.heap.size, 0, none⟩ : Addr) = ad := by simpa using hj
                          refine ⟨⟨_, (hI.2.cell 0).trans rfl⟩, hI.2.free 0, hI.1.keep ((Chg.refl [wr.heap.size] _).setCell (.inl (by simp)) _) (by simp), ?_⟩
                          exact hI.2.set_ 0 _
                        · simp at hj
                        · obtain rfl : (⟨wr.heap.size + 1, 0, none⟩ : Addr) = ad := by simpa using hj
                          refine ⟨⟨_, (hI.1.cell 0).trans rfl⟩, hI.1.free 0, ?_, hI.2.keep ((Chg.refl [wr.heap.size + 1] _).setCell (.inl (by simp)) _) (by simp)⟩
                          exact hI.1.set_ 0 _
                        · simp at hj
                      rintro e w5 ⟨rfl, hI, hch5, A8, c8, hr5⟩
                      have hI' : At w5 (wr.heap.size + 1) 3 #[.int .i64 (numAt L b 2 : Int)] ∧ At w5 wr.heap.size 3 #[.int .i64 (numAt L b 0 : Int)] := hI
                      have h5 : All w w5 [rRdr 57 B4 S4 A6 c6 L b, ⟨[wr.heap.size + 1] ++ [wr.heap.size], fun w1 => At w1 (wr.heap.size + 1) 3 #[.int .i64 (numAt L b 2 : Int)] ∧ At w1 wr.heap.size 3 #[.int .i64 (numAt L b 0 : Int)]⟩, rRdr 62 B3 S3 A8 c8 (numsSt L b 3).1 (numsSt L b 3).2, rRow 0 5 A7 (bs.length + 1) c7 (cB (bs ++ [171]))] := by
                        have sA : Stable w ⟨[wr.heap.size + 1] ++ [wr.heap.size], fun w1 => At w1 (wr.heap.size + 1) 3 #[.int .i64 (numAt L b 2 : Int)] ∧ At w1 wr.heap.size 3 #[.int .i64 (numAt L b 0 : Int)]⟩ := stable_and (rAt_stable w _ _ _) (rAt_stable w _ _ _)
                        have sB := rRdr_stable w 62 B3 S3 A8 c8 (numsSt L b 3).1 (numsSt L b 3).2
                        have hm := h2.merge.merge
                        have hs := hm.same (P' := fun w1 => (At w1 (wr.heap.size + 1) 3 #[.int .i64 (numAt L b 2 : Int)] ∧ At w1 wr.heap.size 3 #[.int .i64 (numAt L b 0 : Int)]) ∧ (rRdr 62 B3 S3 A8 c8 (numsSt L b 3).1 (numsSt L b 3).2).P w1)
                          (hch5.mono (fun x hx => .inl (by simp at hx; simp [rAt, rRdr]; omega))) ⟨hI', hr5, hSn, fun x hx => Nat.lt_of_lt_of_le (hSl x hx) (by have := hch5.size; simp at this; omega)⟩ (stable_and sA sB)
                        exact (All.split hs sA sB).front 2 rfl
                      clear h0 h1 h2 hI hI' hch5 hr5 hR0 hSl hSn hB3
                      have hcA := (h5.get 1 rfl).2.cell 0
                      go_wp2_with (fail)
                      refine (fnum_any B4 S4 w5 _ A6 c6 L b (h5.get 0 rfl).1 (by omega)).mono ?_
                      rw [HN0.out.1, HN0.out.2]
                      rintro e w6 ⟨rfl, A9, c9, hr6⟩
                      have h6 := h5.rdr hr6
                      clear h5 hr6 hcA
                      go_wp2_with (fail)
                      refine (fnum_any B4 S4 w6 _ A9 c9 _ _ (h6.get 0 rfl).1 (by omega)).mono ?_
                      rw [HN1.out]
                      rintro e w7 ⟨rfl, A10, c10, hr7⟩
                      have h7 := h6.rdr hr7
                      have hcA := (h7.get 1 rfl).2.cell 0
                      have hcC := (h7.get 1 rfl).1.cell 0
                      simp only [List.getElem?_toArray, List.getElem?_cons_zero] at hcA hcC
                      have h7d := h7.quiet (Chg.refl [] w7).drew
                      have HN2' := HN2.out
                      have Hcell : Hid (∀ w', All w w' [rRdr 57 B4 S4 A10 c10 (numsSt L b 2).1 (numsSt L b 2).2] → True) := fun _ _ => trivial
                      clear h6 hr7 Hcell
                      go_wp2_with (fail)
                      go_region_held3 (fun w' => w'.cell? ⟨wr.heap.size, 0, none⟩ = some (.int .i64 (numAt L b 0 : Int)) ∧ w'.cell? ⟨wr.heap.size + 1, 0, none⟩ = some (.int .i64 (numAt L b 2 : Int))) (first | go_keep | exact ⟨hcA8, hcC8⟩)
                        (first
                          | (go_at_call 35
                             refine (fnum_any B4 S4 w7.drew w7.drew A10 c10 _ _ (h7d.get 0 rfl).1 (by omega)).mono ?_
                             rw [HN2'.1, HN2'.2]
                             rintro e w8 ⟨rfl, A11, c11, hr8⟩
                             have h8 := h7d.rdr hr8
                             have hcA8 : w8.cell? ⟨wr.heap.size, 0, none⟩ = some (.int .i64 (numAt L b 0 : Int)) := (h8.get 1 rfl).2.cell 0
                             have hcC8 : w8.cell? ⟨wr.heap.size + 1, 0, none⟩ = some (.int .i64 (numAt L b 2 : Int)) := (h8.get 1 rfl).1.cell 0
                             have h9 := (h8.front 1 rfl).tail.front 1 rfl))
                      all_goals
                        go_wp2_with (fail)
                        go_meet
                        exact ⟨A8, c8, A11, c11, (numsSt L b 3).1, (numsSt L b 3).2, by simp, by omega, h9⟩
            case rest =>
              obtain ⟨A8, c8, A9, c9, L2, b2, rfl, hL2, h2⟩ := hcut
              have hRd : ∀ m, RrG 62 (wc.drewN m) B3 S3 (wc.drewN m) A8 c8 L2 b2 := fun m => ((h2.drewN m).get 0 rfl).1
              have hRf : ∀ m, RrG 57 (wc.drewN m) B4 S4 (wc.drewN m) A9 c9 L2 b2 := fun m => ((h2.drewN m).get 1 rfl).1
              have hf0 := ((h2.get 1 rfl).1).at_.cell 0
              have hf1 := ((h2.get 1 rfl).1).at_.cell 1
              simp only [List.getElem?_toArray, List.getElem?_cons_zero, List.getElem?_cons_succ] at hf0 hf1
              have HRd := Lib.hid hRd
              have HRf := Lib.hid hRf
              clear hRd hRf
              have ecmp : ∀ x : Bool, (x != x) = false := fun x => by simp
              cases b2
              all_goals
                go_wp2_with (fail)
                go_quiet ((first | (go_at_call 31; first | exact quiet_left (left_any B3 S3 _ _ A8 c8 L2 _ (HRd.out _)) | exact quiet_left2 (left_any B3 S3 _ _ A8 c8 L2 _ (HRd.out _))) | (go_at_call 19; first | exact quiet_left (good_any B3 S3 _ _ A8 c8 L2 _ (HRd.out _)) | exact quiet_left2 (good_any B3 S3 _ _ A8 c8 L2 _ (HRd.out _))) | (go_at_call 20; first | exact quiet_left (whole_any B3 S3 _ _ A8 c8 L2 _ (HRd.out _)) | exact quiet_left2 (whole_any B3 S3 _ _ A8 c8 L2 _ (HRd.out _))) | (go_at_call 39; first | exact quiet_left (fwhole_any B4 S4 _ _ A9 c9 L2 _ (HRf.out _)) | exact quiet_left2 (fwhole_any B4 S4 _ _ A9 c9 L2 _ (HRf.out _)))))
                go_wp2_with (fail)
                go_roundg (ks.length - (k + 1))
                case rel => exact ⟨k + 1, A8, c8, A9, c9, L2, _, rfl, by omega, by go_num, hL2, h2.drewN _⟩
                case measure => have := Hg.out; omega
          · obtain rfl : k = ks.length := by omega
            have Hg := Lib.hid hg
            clear hg
            have hcap8 := hcap7
            go_wp2_with (fail)
            refine (stands_any _ A7 A _ _ c7 c bs rfl rfl (Rd.of_own (h0.get 2 rfl)) (hr.keep0 h0.chg) hcap8 (by omega)).mono ?_
            rintro e w5 ⟨rfl, hch5⟩
            have h1 := h0.quiet hch5
            clear h0 hch5
            have ecmp : ∀ x : Bool, (x == x) = true := fun x => by simp
            go_wp2_with (first
              | (go_at_call 20; refine (whole_any B3 S3 w5 _ A5 c5 _ _ (h1.get 0 rfl).1).mono ?_; rintro e w' ⟨rfl, rfl⟩)
              | (go_at_call 39; refine (fwhole_any B4 S4 w5 _ A6 c6 _ _ (h1.get 1 rfl).1).mono ?_; rintro e w' ⟨rfl, rfl⟩)
              | (go_at_call 11; refine (known_any _).mono ?_; rintro e wk ⟨rfl, hchk⟩))
            go_ret
            exact ⟨rfl, h1.chg.trans hchk (by simp)⟩
end Go.Proofs.Ytghabhhnhalpgaa
