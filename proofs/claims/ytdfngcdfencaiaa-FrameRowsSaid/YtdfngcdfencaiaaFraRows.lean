
/-
  FrameRows: the walk of the law.
-/
import Derived.Test.YtdfngcdfencaiaaFraL
import Derived.Test.YtdfngcdfencaiaaSep
import Derived.Test.YtdfngcdfencaiaaOpenG
namespace Go.Proofs.Ytdfngcdfencaiaa
open Go.RowKit
set_option linter.unusedVariables false

theorem flat_rows (l : List SlB) : l.flatMap (fun r => [r.val]) = cR l := by
  induction l with
  | nil => rfl
  | cons a l ih => rw [List.flatMap_cons, ih]; rfl
theorem allF_len (l : List (List UInt8)) : 12 * l.length ≤ (allF l).length := by
  induction l with
  | nil => simp [allF]
  | cons p l ih => rw [allF_cons, List.length_append, encF_len, List.length_cons]; omega
theorem take_map_succ {ls : List SlB} {k : Nat} (hk : k < ls.length) : (ls.take (k + 1)).map SlB.bs = (ls.take k).map SlB.bs ++ [ls[k].bs] := by
  rw [List.take_succ_eq_append_getElem hk, List.map_append, List.map_singleton]
theorem allF_one (p : List UInt8) : allF [p] = encF p := by simp [allF]

set_option maxRecDepth 100000 in
set_option maxHeartbeats 6400000 in
theorem frameRows_law (w : World) (x : Sl SlB) (hx : Rd w 1 x.A x.ls.length (x.ls.flatMap fun r => [r.val]) ∧ x.ls.length ≤ x.c ∧ x.c ≤ maxLen ∧ x.ls.length * 24 ≤ 140737488351232 ∧ ∀ a ∈ x.ls, (RdB w a ∧ a.bs.length ≤ a.c ∧ a.c ≤ maxLen ∧ a.bs.length ≤ 140737488351232))
    (y : SlB) (hy : RdB w y ∧ y.bs.length ≤ y.c ∧ y.c ≤ maxLen ∧ y.bs.length ≤ 140737488351232) :
    Calls Try.prog 6 #[.slice x.A x.ls.length x.c, .slice y.A y.bs.length y.c] w fun e w' => e = .returned (.bool true) ∧ Chg [] w w' := by
  obtain ⟨i0, hi, hz0, hz1, hz2⟩ := info_parts info8
  obtain ⟨i1, hi1, hy0, hy1, hy2⟩ := info_parts info_b
  obtain ⟨A, c, ls⟩ := x
  obtain ⟨A', c', J⟩ := y
  obtain ⟨rx, hxc, _, hxl, hxs⟩ := hx
  obtain ⟨ry, hyc, _, hyl⟩ := hy
  rw [flat_rows] at rx
  simp only [RdB] at rx hxc hxl hxs ry hyc hyl ⊢
  have RX := Lib.hid rx
  have RY := Lib.hid ry
  have HXS := Lib.hid hxs
  clear rx ry hxs
  go_enter Try.func6, Try.ntmps6
  go_wp2_with (fail)
  go_loopw [5, 6] (fun s i wr => ∃ (k : Nat) (A2 : Option Addr) (c2 : Nat) (M : List UInt8), k ≤ ls.length ∧ i = .int .i64 k ∧ s = .slice A2 M.length c2 ∧ M.length ≤ 4000 ∧ Hid (M = allF ((ls.take k).map SlB.bs)) ∧ Hid (∀ p ∈ (ls.take k).map SlB.bs, p.length ≤ 4000) ∧ wr.ownsRow w.heap.size 5 1 (.slice A2 M.length c2) M.length (cB M) ∧ Chg [] w wr) (fun _ i _ => ls.length - (intOf i).toNat)
  case atStart => exact ⟨0, none, 0, [], Nat.zero_le _, rfl, rfl, by simp, by simp [Hid, allF], by simp [Hid], own_none _ _ _ _, Chg.refl _ _⟩
  case round =>
    obtain ⟨k, A2, c2, M, hk, rfl, rfl, hM, HM, HP, hown, hch⟩ := hrel
    by_cases hlt : k < ls.length
    · obtain ⟨ad, u, rfl, had, hu, hc⟩ := (RX.out.keep0 hch).get hlt
      rw [cR_get hlt] at hu
      have HR := Lib.hid (HXS.out _ (List.getElem_mem hlt))
      have HT := Lib.hid (take_map_succ hlt)
      generalize ls[k] = r at *
      obtain rfl : Value.slice r.A r.bs.length r.c = u := by simpa using hu
      clear hu
      obtain ⟨rA, rc, p⟩ := r
      simp only at hc HT
      have hrd : Hid (Rd wr 1 rA p.length (cB p)) := (HR.out.1).keep0 hch
      have hpl : p.length ≤ 140737488351232 := HR.out.2.2.2
      clear HR
      by_cases hp4 : 4000 < p.length
      · go_wp2_with (fail)
        go_ret
        exact ⟨rfl, hch⟩
      · go_wp2_with (fail)
        (with_reducible refine (frEncode_any _ _ 1 1 [⟨rA, rc, p⟩] p (by simp [Hid]) rfl ?_ ?_ (by simp) (by simp) (by omega)).mono ?_)
        · exact Rd.new' rfl rfl rfl
        · intro r hr
          obtain rfl := List.mem_singleton.1 hr
          exact hrd.out.alloc _
        rintro e w1 ⟨A3, c3, rfl, r3, hc3, hb3, hch3, _⟩
        have l3 := Lib.hid (encF_len p)
        have hE4 : (encF p).length ≤ 4012 := by rw [l3.out]; omega
        have HMA : Hid (M ++ encF p = allF ((ls.take (k + 1)).map SlB.bs)) := by unfold Hid; rw [HT.out, allF_app, allF_one, ← HM.out]
        have HPA : Hid (∀ q ∈ (ls.take (k + 1)).map SlB.bs, q.length ≤ 4000) := by
          intro q hq
          rw [HT.out] at hq
          rcases List.mem_append.1 hq with hq | hq
          · exact HP.out q hq
          · obtain rfl := List.mem_singleton.1 hq; omega
        obtain ⟨E, hE⟩ : ∃ E, Hid (encF p = E) := ⟨_, rfl⟩
        rw [hE.out] at r3 hE4 HMA ⊢
        clear hb3 hc3 l3 hE HP HT
        have hchx : Hid (Chg [] wr w1) := ((Chg.refl [] wr).alloc _).trans hch3 (by simp)
        have hown' := own_k0 hown hchx.out
        have hsz := (hch.trans hchx.out (by simp)).size
        by_cases hME : 4000 < M.length + E.length
        · go_wp2_with (at_builtin; refine wpList_append_rd _ rfl (.tmp 36) (.tmp 37) 22 (by rfl) w.heap.size 5 i0 _ 1 1 Try.underlying22 hi hz0 hz1 hz2 rfl (by omega) (.slice A2 M.length c2) M.length (cB M) (by rfl) hown' A3 E.length c3 (cB E) (by rfl) r3 (cB_one _) (by unfold maxLen; omega) (by omega) (by omega) ?_; intro A4 c4 w4 hown4 hg4 hb4)
          go_ret
          exact ⟨rfl, (hch.trans hchx.out (by simp)).grown hg4 (fun j hj => .inr (hown'.lt j hj).1)⟩
        · go_wp2_with (at_builtin; refine wpList_append_rd _ rfl (.tmp 36) (.tmp 37) 22 (by rfl) w.heap.size 5 i0 _ 1 1 Try.underlying22 hi hz0 hz1 hz2 rfl (by omega) (.slice A2 M.length c2) M.length (cB M) (by rfl) hown' A3 E.length c3 (cB E) (by rfl) r3 (cB_one _) (by unfold maxLen; omega) (by omega) (by omega) ?_; intro A4 c4 w4 hown4 hg4 hb4)
          rw [← cB_app] at hown4
          go_roundw
          case rel =>
            refine ⟨k + 1, A4, c4, M ++ E, by omega, by go_num, by rw [List.length_append], by rw [List.length_append]; omega, HMA, HPA, by rw [List.length_append]; exact hown4, (hch.trans hchx.out (by simp)).grown hg4 (fun j hj => .inr (hown'.lt j hj).1)⟩
          case measure => simp [intOf]; omega
    · obtain rfl : k = ls.length := by omega
      by_cases hJ : 4000 < J.length
      · go_wp2_with (fail)
        go_ret
        exact ⟨rfl, hch⟩
      · have HML : Hid (M = allF (ls.map SlB.bs)) := by have := HM.out; rw [List.take_length] at this; exact this
        have HPL : Hid (∀ p ∈ ls.map SlB.bs, p.length ≤ 262144) := fun p hp => by have := HP.out p (by rw [List.take_length]; exact hp); omega
        have hls : ls.length ≤ 4000 := by
          have h1 := allF_len (ls.map SlB.bs)
          rw [← HML.out, List.length_map] at h1; omega
        have hlr : Hid (∀ r ∈ ls, r.bs.length ≤ 262144) := fun r hr => HPL.out _ (List.mem_map_of_mem hr)
        have HS1 : Hid (scanF M = (ls.map SlB.bs, M.length)) := by
          have h1 := scanF_all HPL.out []
          rw [List.append_nil, scanF_no (.inl rfl), ← HML.out] at h1
          simpa [Hid] using h1
        have HS2 : Hid (scanF (M ++ J) = (ls.map SlB.bs ++ (scanF J).1, M.length + (scanF J).2)) := by
          have h1 := scanF_all HPL.out J
          rw [← HML.out] at h1; exact h1
        have hrd := Rd.of_own hown
        have hcp := own_cap hown
        have HD := Lib.hid (frScan_any wr A2 _ c2 M rfl hrd hcp (by omega))
        clear HM HP HPL HML
        go_wp2_with (fail)
        refine HD.out.mono ?_
        rintro e w1 ⟨A3, c3, l3, rfl, hl3, hown3, hO3, hch3⟩
        rw [HS1.out] at hl3 ⊢
        simp only at hl3 ⊢
        clear HD
        have hb : ((M.length : Int) != (M.length : Int)) = false := by simp
        have hch1 := hch.trans hch3 (by simp)
        have HL3 := Lib.hid hl3
        have hl3l : l3.length = ls.length := by have := congrArg List.length hl3; simpa using this
        have hO3' : Hid (∀ r ∈ l3, RdB w1 r ∧ r.bs.length ≤ 1099511627776) := fun r hr => ⟨Rd.of_own (hO3 r hr), by
          have h1 : r.bs ∈ ls.map SlB.bs := by rw [← HL3.out]; exact List.mem_map_of_mem hr
          obtain ⟨q, hq, he⟩ := List.mem_map.1 h1
          have := hlr.out q hq
          rw [← he]; omega⟩
        have hR1 : Hid (∀ r ∈ ls, RdB w1 r) := fun r hr => (HXS.out r hr).1.keep0 hch1
        have hl34 : l3.length ≤ 4000 := by omega
        clear hl3 hl3l hO3
        go_wp2_with (fail)
        (with_reducible refine (rows_yes _ _ _ _ _ _ _ l3 ls HL3.out rfl rfl (Rd.of_own hown3) (RX.out.keep0 hch1) hO3'.out hR1.out (by omega)).mono ?_)
        rintro e w2 ⟨rfl, hch2⟩
        have hM2 := (hrd.keep0 hch3).keep0 hch2
        have hch02 := hch1.trans hch2 (by simp)
        clear hown3 hO3' hR1 hrd hown hcp
        have hs2 := hch02.size
        go_wp2_with (first
          | (at_builtin
             refine wpList_append_rd _ rfl (.tmp 61) (.tmp 62) 22 (by rfl) w2.heap.size 5 i0 _ 1 1 Try.underlying22 hi hz0 hz1 hz2 rfl (by omega) (.slice (some ⟨w2.heap.size, 0, none⟩) 0 0) 0 [] (by rfl) (World.ownsRow_made w2 #[] 0 (Nat.le_refl _) (by simp [maxLen]) rfl) A2 M.length c2 (cB M) (by rfl) (hM2.alloc _) (cB_one _) (by unfold maxLen; omega) (by omega) (by simp) ?_
             intro A5 c5 w5 hown5 hg5 hb5
             simp only [Nat.zero_add, List.nil_append] at hown5
             have hch5 : Chg [] w2 w5 := ((Chg.refl [] w2).alloc _).grown hg5 (fun k hk => .inr (by simp [Value.ownBlock] at hk; omega))
             clear hg5 hb5)
          | (at_builtin
             refine wpList_append_rd _ rfl (.tmp 63) (.tmp 64) 22 (by rfl) w2.heap.size 5 i0 _ 1 1 Try.underlying22 hi hz0 hz1 hz2 rfl (by omega) (.slice A5 M.length c5) M.length (cB M) (by rfl) hown5 A' J.length c' (cB J) (by rfl) (RY.out.keep0 (hch02.trans hch5 (by simp))) (cB_one _) (by unfold maxLen; omega) (by omega) hch5.size ?_
             intro A6 c6 w6 hown6 hg6 hb6
             have hch6 : Chg [] w2 w6 := hch5.grown hg6 (fun k hk => .inr (hown5.lt k hk).1)
             clear hg6 hb6))
        rw [← cB_app] at hown6
        have l6 : Hid ((M ++ J).length = M.length + J.length) := by simp [Hid]
        have hcp6 := own_cap hown6
        have HD := Lib.hid (frScan_any w6 A6 (M.length + J.length) c6 (M ++ J) l6.out (by rw [l6.out]; exact Rd.of_own hown6) (by rw [l6.out]; exact hcp6) (by rw [l6.out]; omega))
        clear hown5 hown6 hcp6
        refine HD.out.mono ?_
        rintro e w7 ⟨A7, c7, l7, rfl, hl7, hown7, hO7, hch7⟩
        rw [HS2.out] at hl7 ⊢
        simp only at hl7 ⊢
        clear HD
        have hSJ := scanF_len _ J (Nat.le_refl _)
        have hSJ2 := scanF_most _ J (Nat.le_refl _)
        obtain ⟨sj, hsj⟩ : ∃ sj, Hid ((scanF J).2 = sj) := ⟨_, rfl⟩
        rw [hsj.out] at hSJ ⊢
        have hl7l : ls.length ≤ l7.length := by have := congrArg List.length hl7; simp at this; omega
        have hl7m : l7.length ≤ 8000 := by have := congrArg List.length hl7; simp at this; omega
        have hcp7 := own_cap hown7
        have sL := fun w => run_slice_hi (P := Try.prog) w Try.underlying30 hi1 A7 l7.length c7 (ls.length : Int) ls.length rfl (by omega)
        have HT7 : Hid ((l7.take ls.length).map SlB.bs = ls.map SlB.bs) := by
          unfold Hid
          rw [List.map_take, hl7, List.take_append_of_le_length (by simp), List.take_of_length_le (by simp)]
        have lT7 : Hid ((l7.take ls.length).length = ls.length) := by unfold Hid; rw [List.length_take]; omega
        have rT7 : Hid (Rd w7 1 A7 (l7.take ls.length).length (cR (l7.take ls.length))) := by
          have h1 := (Rd.of_own hown7).take (k := ls.length) hl7l
          unfold Hid
          rw [lT7.out]
          simpa [cR, List.map_take] using h1
        have hch07 := (hch02.trans hch6 (by simp)).trans hch7 (by simp)
        have hO7' : Hid (∀ r ∈ l7.take ls.length, RdB w7 r ∧ r.bs.length ≤ 1099511627776) := fun r hr => ⟨Rd.of_own (hO7 r (List.mem_of_mem_take hr)), by
          have h1 : r.bs ∈ ls.map SlB.bs := by rw [← HT7.out]; exact List.mem_map_of_mem hr
          obtain ⟨q, hq, he⟩ := List.mem_map.1 h1
          have := hlr.out q hq
          rw [← he]; omega⟩
        have hR7 : Hid (∀ r ∈ ls, RdB w7 r) := fun r hr => (HXS.out r hr).1.keep0 hch07
        clear hl7 hO7 hSJ2 hown7
        go_wp2_with (fail)
        (with_reducible refine (rows_yes _ _ _ _ _ _ _ (l7.take ls.length) ls HT7.out lT7.out rfl rT7.out (RX.out.keep0 hch07) hO7'.out hR7.out (by rw [lT7.out]; omega)).mono ?_)
        rintro e w8 ⟨rfl, hch8⟩
        go_wp2_with (go_at_call 10; refine (knownF_any _).mono ?_; rintro e w13 ⟨rfl, hch13⟩)
        go_ret
        exact ⟨rfl, hch07.trans (hch8.trans hch13 (by simp)) (by simp)⟩
end Go.Proofs.Ytdfngcdfencaiaa
