
/-
  FrameTears: the walk of the law.
-/
import Derived.Test.YtdfngcdfencaiaaFraRows
import Derived.OpenShut
namespace Go.Proofs.Ytdfngcdfencaiaa
open Go.RowKit
set_option linter.unusedVariables false

theorem tears {P : List (List UInt8)} (hP : ∀ p ∈ P, p.length ≤ 262144) {n k : Nat} (hn : n ≤ P.length) (h1 : (allF (P.take n)).length ≤ k) (h2 : n = P.length ∨ k < (allF (P.take (n + 1))).length) (hk : k ≤ (allF P).length) :
    scanF ((allF P).take k) = (P.take n, (allF (P.take n)).length) := by
  have e1 : allF P = allF (P.take n) ++ allF (P.drop n) := by rw [← allF_app, List.take_append_drop]
  have e2 : (allF P).take k = allF (P.take n) ++ (allF (P.drop n)).take (k - (allF (P.take n)).length) := by
    rw [e1, List.take_append]
    rw [List.take_of_length_le h1]
  rw [e2, scanF_all (fun p hp => hP p (List.mem_of_mem_take hp))]
  have hX : (allF (P.drop n)).take (k - (allF (P.take n)).length) = [] ∨ (decF ((allF (P.drop n)).take (k - (allF (P.take n)).length))).e ≠ 0 := by
    rcases h2 with h2 | h2
    · left
      rw [h2, List.drop_length]; simp [allF]
    · by_cases hnl : n < P.length
      · right
        have e3 : P.drop n = P[n] :: P.drop (n + 1) := List.drop_eq_getElem_cons hnl
        have e4 : P.take (n + 1) = P.take n ++ [P[n]] := List.take_succ_eq_append_getElem hnl
        rw [e4, allF_app, List.length_append, allF_one] at h2
        have hj : k - (allF (P.take n)).length < (encF P[n]).length := by omega
        rw [e3, allF_cons, List.take_append_of_le_length (by omega)]
        exact decF_cut (hP _ (List.getElem_mem hnl)) hj
      · left
        rw [List.drop_of_length_le (by omega)]; simp [allF]
  rw [scanF_no hX]
  simp
theorem info_i : (Try.prog.info? 3).map (fun i => (i.zero, i.size, i.bytes)) = some (some (.int .i64 0), 1, 8) := by kernel_rfl
theorem cI_app (a b : List Int) : cI (a ++ b) = cI a ++ cI b := by simp [cI]

set_option maxRecDepth 100000 in
set_option maxHeartbeats 6400000 in
theorem frameTears_law (w : World) (x : Sl SlB) (hx : Rd w 1 x.A x.ls.length (x.ls.flatMap fun r => [r.val]) ∧ x.ls.length ≤ x.c ∧ x.c ≤ maxLen ∧ x.ls.length * 24 ≤ 140737488351232 ∧ ∀ a ∈ x.ls, (RdB w a ∧ a.bs.length ≤ a.c ∧ a.c ≤ maxLen ∧ a.bs.length ≤ 140737488351232))
    (v : Int) (hv : (Lit.int .i64 v).wf = true) :
    Calls Try.prog 5 #[.slice x.A x.ls.length x.c, .int .i64 v] w fun e w' => e = .returned (.bool true) ∧ Chg [] w w' := by
  obtain ⟨i0, hi, hz0, hz1, hz2⟩ := info_parts info8
  obtain ⟨i1, hi1, hy0, hy1, hy2⟩ := info_parts info_b
  obtain ⟨i2, hi2, hw0, hw1, hw2⟩ := info_parts info_i
  obtain ⟨A, c, ls⟩ := x
  obtain ⟨rx, hxc, _, hxl, hxs⟩ := hx
  rw [flat_rows] at rx
  simp only [RdB] at rx hxc hxl hxs ⊢
  have RX := Lib.hid rx
  have HXS := Lib.hid hxs
  clear rx hxs hv
  go_enter Try.func5, Try.ntmps5
  go_wp2_with (fail)
  go_loopw [5, 6, 7] (fun s es i wr => ∃ (k : Nat) (A2 A3 : Option Addr) (c2 c3 : Nat) (M : List UInt8) (E : List Int), k ≤ ls.length ∧ i = .int .i64 k ∧ s = .slice A2 M.length c2 ∧ es = .slice A3 k c3 ∧ M.length ≤ 4000 ∧ Hid (M = allF ((ls.take k).map SlB.bs)) ∧ Hid (∀ p ∈ (ls.take k).map SlB.bs, p.length ≤ 4000) ∧
      Hid (∀ j, j < k → E[j]? = some ((allF ((ls.take (j + 1)).map SlB.bs)).length : Int)) ∧ Hid (12 * k ≤ M.length) ∧
      wr.ownsRow w.heap.size 5 1 (.slice A2 M.length c2) M.length (cB M) ∧ wr.ownsRow w.heap.size 3 1 (.slice A3 k c3) k (cI E) ∧ Chg [] w wr) (fun _ _ i _ => ls.length - (intOf i).toNat)
  case atStart => exact ⟨0, none, none, 0, 0, [], [], Nat.zero_le _, rfl, rfl, rfl, by simp, by simp [Hid, allF], by simp [Hid], by simp [Hid], by simp [Hid], own_none _ _ _ _, own_none _ _ _ _, Chg.refl _ _⟩
  case round =>
    obtain ⟨k, A2, A3, c2, c3, M, E, hk, rfl, rfl, rfl, hM, HM, HP, HE, H12, hown, howE, hch⟩ := hrel
    by_cases hlt : k < ls.length
    · obtain ⟨ad, u, rfl, had, hu, hc⟩ := (RX.out.keep0 hch).get hlt
      rw [cR_get hlt] at hu
      have HR := Lib.hid (HXS.out _ (List.getElem_mem hlt))
      have HT := Lib.hid (take_map_succ hlt)
      generalize ls[k] = r at *
      obtain rfl : Value.slice r.A r.bs.length r.c = u := by simpa using hu
      clear hu
      obtain ⟨rA, rc, p⟩ := r
      simp only at hc HT
      have hrd : Hid (Rd wr 1 rA p.length (cB p)) := (HR.out.1).keep0 hch
      have hpl : p.length ≤ 140737488351232 := HR.out.2.2.2
      clear HR
      by_cases hp4 : 4000 < p.length
      · go_wp2_with (fail)
        go_ret
        exact ⟨rfl, hch⟩
      · go_wp2_with (fail)
        (with_reducible refine (frEncode_any _ _ 1 1 [⟨rA, rc, p⟩] p (by simp [Hid]) rfl ?_ ?_ (by simp) (by simp) (by omega)).mono ?_)
        · exact Rd.new' rfl rfl rfl
        · intro r hr
          obtain rfl := List.mem_singleton.1 hr
          exact hrd.out.alloc _
        rintro e w1 ⟨A4, c4, rfl, r4, hc4, hb4, hch4, _⟩
        have l3 := Lib.hid (encF_len p)
        have hE4 : (encF p).length ≤ 4012 := by rw [l3.out]; omega
        have hE12 : 12 ≤ (encF p).length := by rw [l3.out]; omega
        have HMA : Hid (M ++ encF p = allF ((ls.take (k + 1)).map SlB.bs)) := by unfold Hid; rw [HT.out, allF_app, allF_one, ← HM.out]
        have HPA : Hid (∀ q ∈ (ls.take (k + 1)).map SlB.bs, q.length ≤ 4000) := by
          intro q hq
          rw [HT.out] at hq
          rcases List.mem_append.1 hq with hq | hq
          · exact HP.out q hq
          · obtain rfl := List.mem_singleton.1 hq; omega
        obtain ⟨F, hF⟩ : ∃ F, Hid (encF p = F) := ⟨_, rfl⟩
        rw [hF.out] at r4 hE4 hE12 HMA ⊢
        clear hb4 hc4 l3 hF HP HT
        have hchx : Hid (Chg [] wr w1) := ((Chg.refl [] wr).alloc _).trans hch4 (by simp)
        have hown' := own_k0 hown hchx.out
        have howE' := own_k0 howE hchx.out
        have hsz := (hch.trans hchx.out (by simp)).size
        have hk12 : 12 * k ≤ M.length := H12.out
        by_cases hME : 4000 < M.length + F.length
        · go_wp2_with (at_builtin; refine wpList_append_rd _ rfl (.tmp 38) (.tmp 39) 22 (by rfl) w.heap.size 5 i0 _ 1 1 Try.underlying22 hi hz0 hz1 hz2 rfl (by omega) (.slice A2 M.length c2) M.length (cB M) (by rfl) hown' A4 F.length c4 (cB F) (by rfl) r4 (cB_one _) (by unfold maxLen; omega) (by omega) (by omega) ?_; intro A5 c5 w5 hown5 hg5 hb5)
          go_ret
          exact ⟨rfl, (hch.trans hchx.out (by simp)).grown hg5 (fun j hj => .inr (hown'.lt j hj).1)⟩
        · go_wp2_with (first
            | (at_builtin
               refine wpList_append_rd _ rfl (.tmp 38) (.tmp 39) 22 (by rfl) w.heap.size 5 i0 _ 1 1 Try.underlying22 hi hz0 hz1 hz2 rfl (by omega) (.slice A2 M.length c2) M.length (cB M) (by rfl) hown' A4 F.length c4 (cB F) (by rfl) r4 (cB_one _) (by unfold maxLen; omega) (by omega) (by omega) ?_
               intro A5 c5 w5 hown5 hg5 hb5
               have hch5 : Hid (Chg [] w w5) := (hch.trans hchx.out (by simp)).grown hg5 (fun j hj => .inr (hown'.lt j hj).1)
               have howE5 := own_keep howE' (Chg.of_grown hg5) (fun j hj hm => by simp only [Option.mem_toList] at hm; exact own_ne howE' hown' (by decide) j hj hm)
               have hs5 := hch5.out.size
               clear hg5 hb5)
            | (at_builtin
               refine wpList_append_rd _ rfl (.tmp 44) (.tmp 47) 36 (by rfl) w.heap.size 3 i2 _ 1 8 Try.underlying36 hi2 hw0 hw1 hw2 rfl (by omega) (.slice A3 k c3) k (cI E) (by rfl) (howE5.alloc _) (some ⟨w5.heap.size, 0, none⟩) 1 1 (cI [(M.length : Int) + (F.length : Int)]) (by rfl) (Rd.new' rfl rfl rfl) (cI_one _) (by unfold maxLen; omega) (by omega) (by simp; omega) ?_
               intro A6 c6 w6 hown6 hg6 hb6
               have hch6 : Hid (Chg [] w w6) := (hch5.out.alloc _).grown hg6 (fun j hj => .inr (howE5.lt j hj).1)
               have hown56 : w6.ownsRow w.heap.size 5 1 (.slice A5 (M.length + F.length) c5) (M.length + F.length) (cB M ++ cB F) := by
                 refine own_keep (hown5.alloc _) (Chg.of_grown hg6) (fun j hj hm => ?_)
                 simp only [Option.mem_toList] at hm
                 exact own_ne hown5 howE5 (by decide) j hj hm
               clear hg6 hb6))
          rw [← cB_app] at hown56
          rw [← cI_app] at hown6
          have hEl : E.length = k := by have := howE.1; simp [cI_len] at this; exact this
          go_roundw
          case rel =>
            refine ⟨k + 1, A5, A6, c5, c6, M ++ F, E ++ [(M.length : Int) + (F.length : Int)], by omega, by go_num, by rw [List.length_append], rfl, by rw [List.length_append]; omega, HMA, HPA, ?_, by unfold Hid; rw [List.length_append]; omega, by rw [List.length_append]; exact hown56, hown6, hch6.out⟩
            intro j hj
            by_cases hjk : j < k
            · rw [List.getElem?_append_left (by omega)]; exact HE.out j hjk
            · obtain rfl : j = k := by omega
              rw [List.getElem?_append_right (by omega), hEl, Nat.sub_self, ← HMA.out, List.length_append]
              rfl
          case measure => simp [intOf]; omega
    · obtain rfl : k = ls.length := by omega
      have HML : Hid (M = allF (ls.map SlB.bs)) := by have := HM.out; rw [List.take_length] at this; exact this
      have HPL : Hid (∀ p ∈ ls.map SlB.bs, p.length ≤ 262144) := fun p hp => by have := HP.out p (by rw [List.take_length]; exact hp); omega
      have hls : ls.length ≤ 4000 := by have := H12.out; omega
      have hEl : Hid (E.length = ls.length) := by have := howE.1; simp [cI_len] at this; exact this
      clear HM HP H12
      obtain ⟨a, eand, ha⟩ := and30m v
      have hil : a % (M.length + 1) < M.length + 1 := Nat.mod_lt _ (by omega)
      obtain ⟨ix, HIX⟩ : ∃ ix, Hid (a % (M.length + 1) = ix) := ⟨_, rfl⟩
      rw [HIX.out] at hil
      have hmod : Hid (((a : Int)) % ((M.length : Int) + 1) = (ix : Int)) := by unfold Hid; rw [← HIX.out]; simp
      have hcp := own_cap hown
      have sH := fun w => run_slice_hi (P := Try.prog) w Try.underlying22 hi A2 M.length c2 ((a : Int) % ((M.length : Int) + 1)) ix hmod.out (by omega)
      have q0 : (0 : Int) ≤ (a : Int) % ((M.length : Int) + 1) := by rw [hmod.out]; omega
      have hrE := Lib.hid (Rd.of_own howE)
      go_wp2_with (fail)
      clear eand
      go_loop [11] (fun i => ∃ n : Nat, n ≤ ls.length ∧ i = .int .i64 n ∧ Hid (n = 0 ∨ (allF ((ls.take n).map SlB.bs)).length ≤ ix)) (fun i => ls.length - (intOf i).toNat)
      case atStart => exact ⟨0, Nat.zero_le _, rfl, .inl rfl⟩
      case round =>
        obtain ⟨n, hn, rfl, HN⟩ := hrel
        by_cases hnl : n < ls.length
        · obtain ⟨ad, u, hA3, had, hu, hc⟩ := hrE.out.get hnl
          have hu2 : (cI E)[n]? = some (.int .i64 ((allF ((ls.take (n + 1)).map SlB.bs)).length : Int)) := by
            unfold cI; rw [List.getElem?_map, HE.out n hnl]; rfl
          obtain rfl : Value.int .i64 ((allF ((ls.take (n + 1)).map SlB.bs)).length : Int) = u := by rw [hu2] at hu; simpa using hu
          subst hA3
          clear hu hu2
          obtain ⟨z, hz⟩ : ∃ z, Hid ((allF ((ls.take (n + 1)).map SlB.bs)).length = z) := ⟨_, rfl⟩
          rw [hz.out] at hc
          have hni : (n : Int) < (ls.length : Int) := by omega
          by_cases hzi : z ≤ ix
          · have hzI : (z : Int) ≤ (a : Int) % ((M.length : Int) + 1) := by rw [hmod.out]; omega
            go_wp2_with (fail)
            go_round
            case rel => exact ⟨n + 1, by omega, by go_num, .inr (by rw [hz.out]; exact hzi)⟩
            case measure => simp [intOf]; omega
          · have hzI : (a : Int) % ((M.length : Int) + 1) < (z : Int) := by rw [hmod.out]; omega
            have HZ2 : Hid (n = ls.length ∨ ix < (allF ((ls.take (n + 1)).map SlB.bs)).length) := .inr (by rw [hz.out]; omega)
            go_wp2_with (fail)
            have HNle : Hid ((allF ((ls.map SlB.bs).take n)).length ≤ ix) := by
              unfold Hid
              rcases HN.out with h0 | h0
              · rw [h0]; simp [allF]
              · rw [List.map_take] at h0; exact h0
            have HS : Hid (scanF (M.take ix) = ((ls.map SlB.bs).take n, (allF ((ls.map SlB.bs).take n)).length)) := by
              unfold Hid
              have h2 := HZ2.out
              rw [List.map_take] at h2
              have h1 := tears (P := ls.map SlB.bs) HPL.out (n := n) (k := ix) (by rw [List.length_map]; omega) HNle.out (by first | (rw [List.length_map]; exact h2) | exact .inl (by rw [List.length_map])) (by rw [← HML.out]; omega)
              rw [← HML.out] at h1
              exact h1
            have lK : Hid ((M.take ix).length = ix) := by unfold Hid; rw [List.length_take]; omega
            have HD := Lib.hid (frScan_any wr A2 ix c2 (M.take ix) lK.out (Rd.takeB (Rd.of_own hown) (by omega)) (by rw [lK.out]; omega) (by rw [lK.out]; omega))
            refine HD.out.mono ?_
            rintro e w1 ⟨A4, c4, l4, rfl, hl4, hown4, hO4, hch4⟩
            rw [HS.out] at hl4 ⊢
            simp only at hl4 ⊢
            have hch1 := hch.trans hch4 (by simp)
            have HL4 : Hid (l4.map SlB.bs = (ls.take n).map SlB.bs) := by unfold Hid; rw [List.map_take]; exact hl4
            have lT : Hid ((ls.take n).length = n) := by unfold Hid; rw [List.length_take]; omega
            have hl4l : l4.length ≤ 4000 := by have := congrArg List.length HL4.out; simp at this; omega
            have hlr : Hid (∀ r ∈ ls, r.bs.length ≤ 262144) := fun r hr => HPL.out _ (List.mem_map_of_mem hr)
            have hO4' : Hid (∀ r ∈ l4, RdB w1 r ∧ r.bs.length ≤ 1099511627776) := fun r hr => ⟨Rd.of_own (hO4 r hr), by
              have h1 : r.bs ∈ (ls.take n).map SlB.bs := by rw [← HL4.out]; exact List.mem_map_of_mem hr
              obtain ⟨q, hq, he⟩ := List.mem_map.1 h1
              have := hlr.out q (List.mem_of_mem_take hq)
              rw [← he]; omega⟩
            have hR1 : Hid (∀ r ∈ ls.take n, RdB w1 r) := fun r hr => (HXS.out r (List.mem_of_mem_take hr)).1.keep0 hch1
            have rT : Hid (Rd w1 1 A (ls.take n).length (cR (ls.take n))) := by
              have h1 := (RX.out.keep0 hch1).take (k := n) (by omega)
              unfold Hid
              rw [lT.out]
              have e1 : cR (ls.take n) = (cR ls).take (n * 1) := by simp only [cR, List.map_take, Nat.mul_one]
              rw [e1]; exact h1
            have sT := fun w => run_slice_hi (P := Try.prog) w Try.underlying30 hi1 A ls.length c ((n : Nat) : Int) n rfl (by omega)
            have hrE1 := Lib.hid (hrE.out.keep0 hch4)
            obtain ⟨q, hq⟩ : ∃ q, Hid ((allF ((ls.map SlB.bs).take n)).length = q) := ⟨_, rfl⟩
            rw [hq.out]
            clear hl4 hO4 HD HNle sH
            by_cases hn0 : n = 0
            · have hq0 : q = 0 := by rw [← hq.out, hn0]; simp [allF]
              subst hq0
              have hng : ¬ (0 : Int) < ((n : Nat) : Int) := by omega
              have Hn0 := Lib.hid hn0
              clear hn0
              go_wp2_with (fail)
              (with_reducible refine (rows_yes _ _ _ _ _ _ _ l4 (ls.take n) HL4.out rfl lT.out (Rd.of_own hown4) rT.out hO4'.out hR1.out (by omega)).mono ?_)
              rintro e w2 ⟨rfl, hch2⟩
              go_wp2_with (go_at_call 10; refine (knownF_any _).mono ?_; rintro e w14 ⟨rfl, hch14⟩)
              go_ret
              exact ⟨rfl, hch1.trans (hch2.trans hch14 (by simp)) (by simp)⟩
            · have hng : (0 : Int) < ((n : Nat) : Int) := by omega
              obtain ⟨ad2, u2, hA2, had2, hu2, hc2'⟩ := hrE1.out.get (k := n - 1) (by omega)
              have hu3 : (cI E)[n - 1]? = some (.int .i64 (q : Int)) := by
                unfold cI; rw [List.getElem?_map, HE.out (n - 1) (by omega), show n - 1 + 1 = n by omega, List.map_take, hq.out]; rfl
              obtain rfl : Value.int .i64 (q : Int) = u2 := by rw [hu3] at hu2; simpa using hu2
              cases hA2
              clear hu2 hu3
              have hi1' : (0 : Int) ≤ ((n : Nat) : Int) - 1 := by omega
              have hi2' : ((n : Nat) : Int) - 1 < (ls.length : Int) := by omega
              have hn1 : (1 : Nat) ≤ n := by omega
              clear hn0
              go_wp2_with (fail)
              (with_reducible refine (rows_yes _ _ _ _ _ _ _ l4 (ls.take n) HL4.out rfl lT.out (Rd.of_own hown4) rT.out hO4'.out hR1.out (by omega)).mono ?_)
              rintro e w2 ⟨rfl, hch2⟩
              go_wp2_with (go_at_call 10; refine (knownF_any _).mono ?_; rintro e w14 ⟨rfl, hch14⟩)
              go_ret
              exact ⟨rfl, hch1.trans (hch2.trans hch14 (by simp)) (by simp)⟩
        · obtain rfl : n = ls.length := by omega
          have HZ2 : Hid (ls.length = ls.length ∨ ix < (allF ((ls.take (ls.length + 1)).map SlB.bs)).length) := .inl rfl
          go_wp2_with (fail)
          have HNle : Hid ((allF ((ls.map SlB.bs).take ls.length)).length ≤ ix) := by
            unfold Hid
            rcases HN.out with h0 | h0
            · rw [h0]; simp [allF]
            · rw [List.map_take] at h0; exact h0
          have HS : Hid (scanF (M.take ix) = ((ls.map SlB.bs).take ls.length, (allF ((ls.map SlB.bs).take ls.length)).length)) := by
            unfold Hid
            have h2 := HZ2.out
            rw [List.map_take] at h2
            have h1 := tears (P := ls.map SlB.bs) HPL.out (n := ls.length) (k := ix) (by rw [List.length_map]; omega) HNle.out (by first | (rw [List.length_map]; exact h2) | exact .inl (by rw [List.length_map])) (by rw [← HML.out]; omega)
            rw [← HML.out] at h1
            exact h1
          have lK : Hid ((M.take ix).length = ix) := by unfold Hid; rw [List.length_take]; omega
          have HD := Lib.hid (frScan_any wr A2 ix c2 (M.take ix) lK.out (Rd.takeB (Rd.of_own hown) (by omega)) (by rw [lK.out]; omega) (by rw [lK.out]; omega))
          refine HD.out.mono ?_
          rintro e w1 ⟨A4, c4, l4, rfl, hl4, hown4, hO4, hch4⟩
          rw [HS.out] at hl4 ⊢
          simp only at hl4 ⊢
          have hch1 := hch.trans hch4 (by simp)
          have HL4 : Hid (l4.map SlB.bs = (ls.take ls.length).map SlB.bs) := by unfold Hid; rw [List.map_take]; exact hl4
          have lT : Hid ((ls.take ls.length).length = ls.length) := by unfold Hid; rw [List.length_take]; omega
          have hl4l : l4.length ≤ 4000 := by have := congrArg List.length HL4.out; simp at this; omega
          have hlr : Hid (∀ r ∈ ls, r.bs.length ≤ 262144) := fun r hr => HPL.out _ (List.mem_map_of_mem hr)
          have hO4' : Hid (∀ r ∈ l4, RdB w1 r ∧ r.bs.length ≤ 1099511627776) := fun r hr => ⟨Rd.of_own (hO4 r hr), by
            have h1 : r.bs ∈ (ls.take ls.length).map SlB.bs := by rw [← HL4.out]; exact List.mem_map_of_mem hr
            obtain ⟨q, hq, he⟩ := List.mem_map.1 h1
            have := hlr.out q (List.mem_of_mem_take hq)
            rw [← he]; omega⟩
          have hR1 : Hid (∀ r ∈ ls.take ls.length, RdB w1 r) := fun r hr => (HXS.out r (List.mem_of_mem_take hr)).1.keep0 hch1
          have rT : Hid (Rd w1 1 A (ls.take ls.length).length (cR (ls.take ls.length))) := by
            have h1 := (RX.out.keep0 hch1).take (k := ls.length) (by omega)
            unfold Hid
            rw [lT.out]
            have e1 : cR (ls.take ls.length) = (cR ls).take (ls.length * 1) := by simp only [cR, List.map_take, Nat.mul_one]
            rw [e1]; exact h1
          have sT := fun w => run_slice_hi (P := Try.prog) w Try.underlying30 hi1 A ls.length c ((ls.length : Nat) : Int) ls.length rfl (by omega)
          have hrE1 := Lib.hid (hrE.out.keep0 hch4)
          obtain ⟨q, hq⟩ : ∃ q, Hid ((allF ((ls.map SlB.bs).take ls.length)).length = q) := ⟨_, rfl⟩
          rw [hq.out]
          clear hl4 hO4 HD HNle sH
          by_cases hn0 : ls.length = 0
          · have hq0 : q = 0 := by rw [← hq.out, hn0]; simp [allF]
            subst hq0
            have hng : ¬ (0 : Int) < ((ls.length : Nat) : Int) := by omega
            have Hn0 := Lib.hid hn0
            clear hn0
            go_wp2_with (fail)
            (with_reducible refine (rows_yes _ _ _ _ _ _ _ l4 (ls.take ls.length) HL4.out rfl lT.out (Rd.of_own hown4) rT.out hO4'.out hR1.out (by omega)).mono ?_)
            rintro e w2 ⟨rfl, hch2⟩
            go_wp2_with (go_at_call 10; refine (knownF_any _).mono ?_; rintro e w14 ⟨rfl, hch14⟩)
            go_ret
            exact ⟨rfl, hch1.trans (hch2.trans hch14 (by simp)) (by simp)⟩
          · have hng : (0 : Int) < ((ls.length : Nat) : Int) := by omega
            obtain ⟨ad2, u2, hA2, had2, hu2, hc2'⟩ := hrE1.out.get (k := ls.length - 1) (by omega)
            have hu3 : (cI E)[ls.length - 1]? = some (.int .i64 (q : Int)) := by
              unfold cI; rw [List.getElem?_map, HE.out (ls.length - 1) (by omega), show ls.length - 1 + 1 = ls.length by omega, List.map_take, hq.out]; rfl
            obtain rfl : Value.int .i64 (q : Int) = u2 := by rw [hu3] at hu2; simpa using hu2
            cases hA2
            clear hu2 hu3
            have hi1' : (0 : Int) ≤ ((ls.length : Nat) : Int) - 1 := by omega
            have hi2' : ((ls.length : Nat) : Int) - 1 < (ls.length : Int) := by omega
            have hn1 : (1 : Nat) ≤ ls.length := by omega
            clear hn0
            go_wp2_with (fail)
            (with_reducible refine (rows_yes _ _ _ _ _ _ _ l4 (ls.take ls.length) HL4.out rfl lT.out (Rd.of_own hown4) rT.out hO4'.out hR1.out (by omega)).mono ?_)
            rintro e w2 ⟨rfl, hch2⟩
            go_wp2_with (go_at_call 10; refine (knownF_any _).mono ?_; rintro e w14 ⟨rfl, hch14⟩)
            go_ret
            exact ⟨rfl, hch1.trans (hch2.trans hch14 (by simp)) (by simp)⟩
end Go.Proofs.Ytdfngcdfencaiaa
