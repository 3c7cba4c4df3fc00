
/-
  FrameEncodes: the walk of the law.
-/
import Derived.Test.YtdfngcdfencaiaaFraRows
namespace Go.Proofs.Ytdfngcdfencaiaa
open Go.RowKit
set_option linter.unusedVariables false

theorem oneF_enc {p : List UInt8} (hp : p.length ≤ 262144) : oneF (encF p) = (p, 0) := by
  have h := decF_enc hp []
  rw [List.append_nil] at h
  rw [oneF_0 (by rw [h]) (by rw [h, encF_len]), h]
theorem oneF_more {p : List UInt8} (hp : p.length ≤ 262144) (x : UInt8) : oneF (encF p ++ [x]) = ([], 3) := by
  have h := decF_enc hp [x]
  rw [oneF_3 (by rw [h]) (by rw [h, List.length_append, encF_len]; simp)]

set_option maxRecDepth 100000 in
set_option maxHeartbeats 6400000 in
theorem frameEncodes_law (w : World) (x : Sl SlB) (hx : Rd w 1 x.A x.ls.length (x.ls.flatMap fun r => [r.val]) ∧ x.ls.length ≤ x.c ∧ x.c ≤ maxLen ∧ x.ls.length * 24 ≤ 140737488351232 ∧ ∀ a ∈ x.ls, (RdB w a ∧ a.bs.length ≤ a.c ∧ a.c ≤ maxLen ∧ a.bs.length ≤ 140737488351232))
    (y : SlB) (hy : RdB w y ∧ y.bs.length ≤ y.c ∧ y.c ≤ maxLen ∧ y.bs.length ≤ 140737488351232) :
    Calls Try.prog 4 #[.slice x.A x.ls.length x.c, .slice y.A y.bs.length y.c] w fun e w' => e = .returned (.bool true) ∧ Chg [] w w' := by
  obtain ⟨i0, hi, hz0, hz1, hz2⟩ := info_parts info8
  obtain ⟨A, c, ls⟩ := x
  obtain ⟨A', c', J⟩ := y
  obtain ⟨rx, hxc, _, hxl, hxs⟩ := hx
  obtain ⟨ry, hyc, _, hyl⟩ := hy
  rw [flat_rows] at rx
  simp only [RdB] at rx hxc hxl hxs ry hyc hyl ⊢
  have RX := Lib.hid rx
  have RY := Lib.hid ry
  have HXS := Lib.hid hxs
  clear rx ry hxs
  go_enter Try.func4, Try.ntmps4
  go_wp2_with (fail)
  go_loopw [5, 6] (fun s i wr => ∃ (k : Nat) (A2 : Option Addr) (c2 : Nat) (M : List UInt8), k ≤ ls.length ∧ i = .int .i64 k ∧ s = .slice A2 M.length c2 ∧ M.length ≤ 8000 ∧ Hid (M = ((ls.take k).map SlB.bs).flatten) ∧ wr.ownsRow w.heap.size 5 1 (.slice A2 M.length c2) M.length (cB M) ∧ Chg [] w wr) (fun _ i _ => ls.length - (intOf i).toNat)
  case atStart => exact ⟨0, none, 0, [], Nat.zero_le _, rfl, rfl, by simp, by simp [Hid], own_none _ _ _ _, Chg.refl _ _⟩
  case round =>
    obtain ⟨k, A2, c2, M, hk, rfl, rfl, hM, HM, hown, hch⟩ := hrel
    by_cases hlt : k < ls.length
    · obtain ⟨ad, u, rfl, had, hu, hc⟩ := (RX.out.keep0 hch).get hlt
      rw [cR_get hlt] at hu
      have HR := Lib.hid (HXS.out _ (List.getElem_mem hlt))
      have HT := Lib.hid (take_map_succ hlt)
      generalize ls[k] = r at *
      obtain rfl : Value.slice r.A r.bs.length r.c = u := by simpa using hu
      clear hu
      obtain ⟨rA, rc, p⟩ := r
      simp only at hc HT
      have hrd : Hid (Rd wr 1 rA p.length (cB p)) := (HR.out.1).keep0 hch
      have hpl : p.length ≤ 140737488351232 := HR.out.2.2.2
      clear HR
      by_cases hp4 : 4000 < p.length
      · go_wp2_with (fail)
        go_ret
        exact ⟨rfl, hch⟩
      by_cases hM4 : 4000 < M.length
      · go_wp2_with (fail)
        go_ret
        exact ⟨rfl, hch⟩
      have HMA : Hid (M ++ p = ((ls.take (k + 1)).map SlB.bs).flatten) := by unfold Hid; rw [HT.out, List.flatten_append, ← HM.out]; simp
      have hsz := hch.size
      go_wp2_with (at_builtin; refine wpList_append_rd _ rfl (.tmp 35) (.tmp 39) 22 (by rfl) w.heap.size 5 i0 _ 1 1 Try.underlying22 hi hz0 hz1 hz2 rfl (by omega) (.slice A2 M.length c2) M.length (cB M) (by rfl) hown rA p.length rc (cB p) (by rfl) hrd.out (cB_one _) (by unfold maxLen; omega) (by omega) (by omega) ?_; intro A4 c4 w4 hown4 hg4 hb4)
      rw [← cB_app] at hown4
      go_roundw
      case rel =>
        refine ⟨k + 1, A4, c4, M ++ p, by omega, by go_num, by rw [List.length_append], by rw [List.length_append]; omega, HMA, by rw [List.length_append]; exact hown4, hch.grown hg4 (fun j hj => .inr (hown.lt j hj).1)⟩
      case measure => simp [intOf]; omega
    · obtain rfl : k = ls.length := by omega
      by_cases hJ : 4000 < M.length + J.length
      · go_wp2_with (fail)
        go_ret
        exact ⟨rfl, hch⟩
      · have HML : Hid ((ls.map SlB.bs).flatten = M) := by have := HM.out; rw [List.take_length] at this; exact this.symm
        have hrd := Rd.of_own hown
        have hrs : Hid (∀ r ∈ ls, RdB wr r) := fun r hr => (HXS.out r hr).1.keep0 hch
        have hM4 : M.length ≤ 4000 := by omega
        have hJ4 : J.length ≤ 4000 := by omega
        have HD := Lib.hid (decF_enc (p := M) (by omega) J)
        have HO := Lib.hid (oneF_enc (p := M) (by omega))
        have HO1 := Lib.hid (oneF_more (p := M) (by omega) 1)
        have lE := Lib.hid (encF_len M)
        clear HM
        go_wp2_with (fail)
        (with_reducible refine (frEncode_any _ _ _ _ ls M HML rfl (RX.out.keep0 hch) hrs.out (by omega) (by omega) (by omega)).mono ?_)
        rintro e w1 ⟨A3, c3, rfl, r3, hc3, hb3, hch3, _⟩
        have hM1 := hrd.keep0 hch3
        have hch1 := hch.trans hch3 (by simp)
        clear hb3 hrs HML hrd hown hch3
        go_wp2_with (fail)
        (with_reducible refine (refEncF_any _ _ _ _ M rfl hM1 (by omega)).mono ?_)
        rintro e w2 ⟨A4, c4, rfl, hown4, hch4⟩
        have r4 := Rd.of_own hown4
        have r3' := r3.keep0 hch4
        have hM2 := hM1.keep0 hch4
        have hch2 := hch1.trans hch4 (by simp)
        have hEl : (encF M).length ≤ 4012 := by rw [lE.out]; omega
        have hEn : Hid ((12 + M.length : Nat) = (encF M).length) := lE.out.symm
        obtain ⟨E, hE⟩ : ∃ E, Hid (encF M = E) := ⟨_, rfl⟩
        rw [hE.out] at r3' r4 hEl hEn HD HO HO1 hc3 ⊢
        clear r3 hM1 hown4 hch4 lE hE hch1
        go_wp2_with (fail)
        (with_reducible refine (same_to _ _ _ _ _ _ _ E E true (by simp) rfl rfl r3' r4 (by omega)).mono ?_)
        rintro e w3 ⟨rfl, hch3⟩
        have r3 := r3'.keep0 hch3
        have hM3 := hM2.keep0 hch3
        have hch03 := hch2.trans hch3 (by simp)
        clear r3' r4 hM2 hch2 hch3
        go_wp2_with (first
          | (at_builtin
             refine wpList_append_rd _ rfl (.tmp 67) (.tmp 68) 22 (by rfl) w3.heap.size 5 i0 _ 1 1 Try.underlying22 hi hz0 hz1 hz2 rfl (by omega) (.slice (some ⟨w3.heap.size, 0, none⟩) 0 0) 0 [] (by rfl) (World.ownsRow_made w3 #[] 0 (Nat.le_refl _) (by simp [maxLen]) rfl) A3 E.length c3 (cB E) (by rfl) (r3.alloc _) (cB_one _) (by unfold maxLen; omega) (by omega) (by simp) ?_
             intro A5 c5 w5 hown5 hg5 hb5
             simp only [Nat.zero_add, List.nil_append] at hown5
             have hch5 : Chg [] w3 w5 := ((Chg.refl [] w3).alloc _).grown hg5 (fun k hk => .inr (by simp [Value.ownBlock] at hk; omega))
             clear hg5 hb5)
          | (at_builtin
             refine wpList_append_rd _ rfl (.tmp 69) (.tmp 70) 22 (by rfl) w3.heap.size 5 i0 _ 1 1 Try.underlying22 hi hz0 hz1 hz2 rfl (by omega) (.slice A5 E.length c5) E.length (cB E) (by rfl) hown5 A' J.length c' (cB J) (by rfl) (RY.out.keep0 (hch03.trans hch5 (by simp))) (cB_one _) (by unfold maxLen; omega) (by omega) hch5.size ?_
             intro A6 c6 w6 hown6 hg6 hb6
             have hch6 : Chg [] w3 w6 := hch5.grown hg6 (fun k hk => .inr (hown5.lt k hk).1)
             clear hg6 hb6))
        rw [← cB_app] at hown6
        have l6 : Hid ((E ++ J).length = E.length + J.length) := by simp [Hid]
        have hcp6 := own_cap hown6
        have HDD := Lib.hid (frDecode_any w6 A6 (E.length + J.length) c6 (E ++ J) l6.out (by rw [l6.out]; exact Rd.of_own hown6) (by rw [l6.out]; exact hcp6) (by rw [l6.out]; omega))
        rw [HD.out] at HDD
        clear hown5 hown6 hcp6 hch5
        refine HDD.out.mono ?_
        rintro e w7 ⟨A7, c7, rfl, hown7, hch7⟩
        simp only at hown7 ⊢
        have hch37 := hch6.trans hch7 (by simp)
        have r37 := r3.keep0 hch37
        have hM7 := hM3.keep0 hch37
        have hch07 := hch03.trans hch37 (by simp)
        have r7 := Rd.of_own hown7
        clear hown7 r3 hM3 hch03 hch6 hch7 hch37 HDD
        go_wp2_with (fail)
        have HO2 := Lib.hid (frOne_any w7 A3 _ c3 E rfl r37 hc3 (by omega))
        rw [HO.out] at HO2
        refine HO2.out.mono ?_
        rintro e w8 ⟨A8, c8, rfl, hown8, hch8⟩
        simp only at hown8 ⊢
        have r38 := r37.keep0 hch8
        have hM8 := hM7.keep0 hch8
        have r78 := r7.keep0 hch8
        have r8 := Rd.of_own hown8
        have hch08 := hch07.trans hch8 (by simp)
        clear hown8 r37 hM7 r7 hch8 HO2 hch07
        go_wp2_with (first
          | (at_builtin
             refine wpList_append_rd _ rfl (.tmp 82) (.tmp 83) 22 (by rfl) w8.heap.size 5 i0 _ 1 1 Try.underlying22 hi hz0 hz1 hz2 rfl (by omega) (.slice (some ⟨w8.heap.size, 0, none⟩) 0 0) 0 [] (by rfl) (World.ownsRow_made w8 #[] 0 (Nat.le_refl _) (by simp [maxLen]) rfl) A3 E.length c3 (cB E) (by rfl) (r38.alloc _) (cB_one _) (by unfold maxLen; omega) (by omega) (by simp) ?_
             intro A9 c9 w9 hown9 hg9 hb9
             simp only [Nat.zero_add, List.nil_append] at hown9
             have hch9 : Chg [] w8 w9 := ((Chg.refl [] w8).alloc _).grown hg9 (fun k hk => .inr (by simp [Value.ownBlock] at hk; omega))
             have hsz9 := hch9.size
             clear hg9 hb9)
          | (at_builtin
             refine wpList_append_rd _ rfl (.tmp 84) (.tmp 85) 22 (by rfl) w8.heap.size 5 i0 _ 1 1 Try.underlying22 hi hz0 hz1 hz2 rfl (by omega) (.slice A9 E.length c9) E.length (cB E) (by rfl) (hown9.alloc _) (some ⟨w9.heap.size, 0, none⟩) 1 1 [.int .u8 1] (by rfl) (Rd.new' rfl rfl rfl) (by simp [Value.oneCell']) (by unfold maxLen; omega) (by omega) (by simp; omega) ?_
             intro A10 c10 w10 hown10 hg10 hb10
             have hch10 : Chg [] w8 w10 := (hch9.alloc _).grown hg10 (fun k hk => .inr (hown9.lt k hk).1)
             clear hg10 hb10))
        have hown10' : w10.ownsRow w8.heap.size 5 1 (.slice A10 (E.length + 1) c10) (E.length + 1) (cB (E ++ [1])) := by rw [cB_app]; exact hown10
        have l10 : Hid ((E ++ [1]).length = E.length + 1) := by simp [Hid]
        have hcp10 := own_cap hown10
        have HO2 := Lib.hid (frOne_any w10 A10 _ c10 (E ++ [1]) l10.out (by rw [l10.out]; exact Rd.of_own hown10') (by rw [l10.out]; exact hcp10) (by rw [l10.out]; omega))
        rw [HO1.out] at HO2
        clear hown9 hown10 hown10' hcp10 hch9 hsz9
        refine HO2.out.mono ?_
        rintro e w11 ⟨A11, c11, rfl, hown11, hch11⟩
        simp only at ⊢
        have hch811 := hch10.trans hch11 (by simp)
        have hM11 := hM8.keep0 hch811
        have r711 := r78.keep0 hch811
        have r811 := r8.keep0 hch811
        have hch011 := hch08.trans hch811 (by simp)
        have hbn : (12 + (M.length : Int) == (E.length : Int)) = true := by rw [beq_iff_eq]; have := hEn.out; omega
        clear hM8 r78 r8 hch08 hown11 hch11 hch10 hch811 HO2 r38
        go_wp2_with (fail)
        (with_reducible refine (same_to _ _ _ _ _ _ _ M M true (by simp) rfl rfl r711 hM11 (by omega)).mono ?_)
        rintro e w12 ⟨rfl, hch12⟩
        go_wp2_with (fail)
        (with_reducible refine (same_to _ _ _ _ _ _ _ M M true (by simp) rfl rfl (r811.keep0 hch12) (hM11.keep0 hch12) (by omega)).mono ?_)
        rintro e w13 ⟨rfl, hch13⟩
        go_wp2_with (go_at_call 10; refine (knownF_any _).mono ?_; rintro e w14 ⟨rfl, hch14⟩)
        go_ret
        exact ⟨rfl, hch011.trans (hch12.trans (hch13.trans hch14 (by simp)) (by simp)) (by simp)⟩
end Go.Proofs.Ytdfngcdfencaiaa
