
/-
  ChainTurns: the walk of the law.
-/
import Derived.Test.YtmliclfepnebfaaChZ
namespace Go.Proofs.Ytmliclfepnebfaa
open Go.RowKit
set_option linter.unusedVariables false
set_option linter.unusedSimpArgs false
set_option maxRecDepth 100000 in
set_option maxHeartbeats 12800000 in
theorem chainTurns_law (w : World) (x : Sl VrV) (hx : Rd w 6 x.A x.ls.length (x.ls.flatMap VrV.cells) ∧ x.ls.length ≤ x.c ∧ x.c ≤ maxLen ∧ x.ls.length * 64 ≤ 140737488351232 ∧ ∀ a ∈ x.ls, VrV.InN w a) :
    Calls Try.prog 4 #[.slice x.A x.ls.length x.c] w fun e w' => e = .returned (.bool true) ∧ Chg [] w w' := by
  have hX := Vers.of hx
  obtain ⟨A, c, ls⟩ := x
  clear hx
  have HX := Lib.hid hX
  have hll : ls.length ≤ 140737488351232 := hX.len
  have HR : Hid (Rd w 6 A ls.length (cVr ls)) := hX.rd
  have HVL : Hid (∀ x ∈ ls, x.val.length ≤ 140737488351232) := fun x hx => (hX.dat x hx).vl
  clear hX
  show Calls Try.prog 4 #[.slice A ls.length c] w _
  go_enter Try.func4, Try.ntmps4
  go_wp2_with (fail)
  refine (heavyV_any w A c ls HR.out hll HVL.out).mono ?_
  rintro e w1 ⟨hv, rfl, hhv, hc1⟩
  cases hv
  rotate_left
  · clear hhv
    go_wp2_with (fail)
    go_ret
    exact ⟨rfl, hc1⟩
  have hsum := Lib.hid (hhv rfl)
  clear hhv
  have hl1 : ls.length ≤ 1000 := by have := hsum.out; omega
  have HLA := Lib.hid ((HX.out.laid hsum.out).keep hc1)
  clear HX
  go_wp2_with (fail)
  refine (ofC_any w1 A c ls HLA.out (by omega)).mono ?_
  rintro e w2 (⟨hz, gn, rfl, hA, hG, hl⟩ | ⟨hz0, rfl, hc2⟩)
  rotate_left
  · have hz := Lib.hid hz0
    obtain ⟨er, HER⟩ : ∃ er, Hid ((ofR [] (List.map VrV.v ls)).1 = er) := ⟨_, Lib.hid rfl⟩
    rw [HER.out] at hz0 ⊢
    have hb : (er != 0) = true := by rw [bne_iff_ne]; exact hz0
    have hb2 : (er == 0) = false := beq_eq_false_iff_ne.2 hz0
    have hcOf := Lib.hid hc2
    clear hz0 hc2
    go_wp2_with (fail)
    obtain ⟨i1, hi1, hy0, hy1, hy2⟩ := info_parts info_ver
    go_loopw [5, 6] (fun mm i wr => ∃ (n : Nat) (A2 : Option Addr) (c2 : Nat), n ≤ ls.length ∧ i = .int .i64 ((n : Int) - 1) ∧ mm = .slice A2 (ls.length - n) c2 ∧ Hid (wr.ownsRow w2.heap.size 28 6 (.slice A2 (ls.length - n) c2) (ls.length - n) (cVr (ls.drop n).reverse)) ∧ Chg [] w2 wr) (fun _ i _ => (intOf i + 1).toNat)
    case atStart => exact ⟨ls.length, none, 0, Nat.le_refl _, rfl, by rw [Nat.sub_self], by rw [Nat.sub_self, List.drop_length]; exact World.ownsRow_nil _ _ _ _, Chg.refl _ _⟩
    case round =>
      obtain ⟨n, A2, c2, hn, rfl, rfl, HO, hch⟩ := hrel
      cases n with
      | zero =>
        rw [Nat.sub_zero] at *
        have HOR := Lib.hid (HO.out)
        have HCH := Lib.hid hch
        clear HO hch
        simp only [List.drop_zero] at HOR
        have HLM : Hid (Laid wr A2 ls.reverse) := ⟨by rw [List.length_reverse]; exact Rd.of_own HOR.out, fun m hm => (HLA.out.dat m (List.mem_reverse.1 hm)).keep0 (hcOf.out.trans HCH.out (by simp)), fun m hm => HLA.out.len m (List.mem_reverse.1 hm), fun m hm => HLA.out.nil_ m (List.mem_reverse.1 hm)⟩
        have HOF := Lib.hid (ofC_any wr A2 c2 ls.reverse HLM.out (by rw [List.length_reverse]; omega))
        have HTU := Lib.hid (ofR_turn (l := ls.map VrV.v) (l' := ls.reverse.map VrV.v) (by rw [List.map_reverse]; exact (List.reverse_perm _).symm))
        rw [List.length_reverse] at HOF
        clear HLM HOR
        go_wp2_with (fail)
        refine HOF.out.mono ?_
        clear HOF
        rintro e w4 (⟨hz2, _⟩ | ⟨hz2, rfl, hc4⟩)
        · exact absurd (HTU.out.1.2 hz2) hz.out
        generalize (ofR [] (List.map VrV.v ls.reverse)).1 = er2 at *
        clear HTU
        have hb3 : (er2 == 0) = false := beq_eq_false_iff_ne.2 hz2
        have HC4 := Lib.hid (((hc1.trans hcOf.out (by simp)).trans HCH.out (by simp)).trans hc4 (by simp))
        clear hz2 hc4
        go_wp2_with (fail)
        refine (known_any _).mono ?_
        rintro e wk ⟨rfl, hck⟩
        go_wp2_with (fail)
        go_ret
        exact ⟨rfl, HC4.out.trans hck (by simp)⟩
      | succ k =>
        have hk : k < ls.length := by omega
        have hkk : (((k + 1 : Nat) : Int)) - 1 = (k : Int) := by omega
        rw [hkk]
        clear hkk
        have HE : Hid ((ls.drop k).reverse = (ls.drop (k + 1)).reverse ++ [ls[k]]) := by unfold Hid; rw [List.drop_eq_getElem_cons hk, List.reverse_cons]
        have HLk := HLA.out.rd.keep0 (hcOf.out.trans hch (by simp))
        obtain ⟨ad, hAd, had, hc0, hc⟩ := HLk.getV hk
        have d1 := hc 1 _ (by omega) rfl
        have d2 := hc 2 _ (by omega) rfl
        have d3 := hc 3 _ (by omega) rfl
        have d4 := hc 4 _ (by omega) rfl
        have d5 := hc 5 _ (by omega) rfl
        have hki : (k : Int) < (ls.length : Int) := by omega
        have hk0 : (0 : Int) ≤ (k : Int) := by omega
        clear hc HLk
        rw [hAd]
        obtain ⟨vx, hvx⟩ : ∃ vx, ls[k] = vx := ⟨_, rfl⟩
        rw [hvx] at hc0 d1 d2 d3 d4 d5 HE
        clear hvx
        obtain ⟨m, q, o, A', d, p, g, t⟩ := vx
        simp only at hc0 d1 d2 d3 d4 d5
        have hs1 : ls.length - (k + 1) + 1 = ls.length - k := by omega
        obtain ⟨N, hN⟩ : ∃ N, ls.length - (k + 1) = N := ⟨_, rfl⟩
        rw [hN] at HO hs1
        rw [hN]
        have hN2 : N ≤ 1000000 := by omega
        clear hN
        have HS1 := Lib.hid hs1
        clear hs1
        go_wp2_with (at_builtin; refine wpList_append_rd _ rfl (.tmp 23) (.tmp 28) 22 (by rfl) w2.heap.size 28 i1 _ 6 64 Try.underlying22 hi1 hy0 hy1 hy2 rfl (by omega) (.slice A2 N c2) N (cVr (ls.drop (k + 1)).reverse) (by rfl) (own_keep HO.out ((Chg.refl [] wr).alloc _) (fun _ _ hm => by simp at hm)) (some ⟨wr.heap.size, 0, none⟩) 1 1 [.int .i64 m, .int .i64 q, .int .i64 o, .slice A' d.length p, .bool g, .int .i64 t] (by rfl) (Rd.new' rfl rfl rfl) (by simp [Value.oneCell']) (by unfold maxLen; omega) (by omega) (by have := hch.size; simp; omega) ?_; intro A6 c6 w6 hown6 hg6 hb6)
        go_roundw
        case rel =>
          refine ⟨k, A6, c6, by omega, rfl, by rw [← HS1.out], ?_, (hch.alloc _).grown hg6 (fun j hj => .inr (HO.out.lt j hj).1)⟩
          rw [← HS1.out, HE.out, cVr_app]
          exact hown6
        case measure => simp [intOf]
  have HLN : Hid ((ofR [] (List.map VrV.v ls)).2.length = ls.length) := by have := ofR_len hz; rwa [List.length_map] at this
  rw [List.length_map] at hl
  have HN := Lib.hid hA
  have HG := Lib.hid hG
  have HZ := Lib.hid hz
  obtain ⟨acc, HAC⟩ : ∃ acc, Hid ((ofR [] (List.map VrV.v ls)).2 = acc) := ⟨_, Lib.hid rfl⟩
  rw [HAC.out] at hl HN HG HLN
  have hcOf := Lib.hid HN.out.chg
  clear hA hG hz
  go_wp2_with (fail)
  obtain ⟨i1, hi1, hy0, hy1, hy2⟩ := info_parts info_ver
  go_loopw [5, 6] (fun mm i wr => ∃ (n : Nat) (A2 : Option Addr) (c2 : Nat), n ≤ ls.length ∧ i = .int .i64 ((n : Int) - 1) ∧ mm = .slice A2 (ls.length - n) c2 ∧ Hid (wr.ownsRow w2.heap.size 28 6 (.slice A2 (ls.length - n) c2) (ls.length - n) (cVr (ls.drop n).reverse)) ∧ Chg [] w2 wr) (fun _ i _ => (intOf i + 1).toNat)
  case atStart => exact ⟨ls.length, none, 0, Nat.le_refl _, rfl, by rw [Nat.sub_self], by rw [Nat.sub_self, List.drop_length]; exact World.ownsRow_nil _ _ _ _, Chg.refl _ _⟩
  case round =>
    obtain ⟨n, A2, c2, hn, rfl, rfl, HO, hch⟩ := hrel
    cases n with
    | zero =>
      rw [Nat.sub_zero] at *
      have HOR := Lib.hid (HO.out)
      have HCH := Lib.hid hch
      clear HO hch
      simp only [List.drop_zero] at HOR
      have HLM : Hid (Laid wr A2 ls.reverse) := ⟨by rw [List.length_reverse]; exact Rd.of_own HOR.out, fun m hm => (HLA.out.dat m (List.mem_reverse.1 hm)).keep0 (hcOf.out.trans HCH.out (by simp)), fun m hm => HLA.out.len m (List.mem_reverse.1 hm), fun m hm => HLA.out.nil_ m (List.mem_reverse.1 hm)⟩
      have HOF := Lib.hid (ofC_any wr A2 c2 ls.reverse HLM.out (by rw [List.length_reverse]; omega))
      have HTU := Lib.hid (ofR_turn (l := ls.map VrV.v) (l' := ls.reverse.map VrV.v) (by rw [List.map_reverse]; exact (List.reverse_perm _).symm))
      rw [List.length_reverse] at HOF
      clear HLM HOR
      go_wp2_with (fail)
      refine HOF.out.mono ?_
      clear HOF
      rintro e w4 (⟨hz2, gb, rfl, hB, hG2, hl2⟩ | ⟨hz2, rfl, hc4⟩)
      rotate_left
      · exact absurd (HTU.out.1.1 HZ.out) hz2
      rw [← HTU.out.2 HZ.out, HAC.out] at hB hG2 hl2
      clear HTU hl2 hG2 hz2
      have HNB := Lib.hid hB
      have HNA4 := Lib.hid ((HN.out.quiet HCH.out).quiet hB.chg)
      have HC4 := Lib.hid ((hc1.trans HN.out.chg (by simp)).trans (HCH.out.trans hB.chg (by simp)) (by simp))
      clear hB HN
      go_wp2_with (fail)
      refine (allC_all HNA4.out (by omega) HG.out.valid).mono ?_
      rintro e w5 ⟨A5, c5, ms5, rfl, hm5, h5⟩
      have HV5 := Lib.hid (h5.get 0 rfl)
      have HM5 := Lib.hid hm5
      have hl5 : ms5.length ≤ 1000 := by have := congrArg List.length hm5; rw [List.length_map] at this; omega
      have HNB5 := Lib.hid (HNB.out.quiet h5.chg)
      have HNA5 := Lib.hid (HNA4.out.quiet h5.chg)
      have HC5 := Lib.hid (HC4.out.trans h5.chg (by simp))
      clear hm5 h5 HNB HNA4 HC4
      go_wp2_with (fail)
      refine (allC_all HNB5.out (by omega) HG.out.valid).mono ?_
      rintro e w6 ⟨A6, c6, ms6, rfl, hm6, h6⟩
      have HV6 := Lib.hid (h6.get 0 rfl)
      have HV56 := Lib.hid (VsP.keep HV5.out h6.chg)
      have HM6 := Lib.hid hm6
      have HNA6 := Lib.hid (HNA5.out.quiet h6.chg)
      have HC6 := Lib.hid (HC5.out.trans h6.chg (by simp))
      clear hm6 h6 HNB5 HNA5 HC5 HV5
      go_wp2_with (fail)
      refine (versions_eq w6 A5 c5 ms5 A6 c6 ms6 (HM5.out.trans HM6.out.symm) HV56.out.rd (VsP.rd HV6.out) HV56.out.rdat (VsP.rdat HV6.out) (by omega)).mono ?_
      rintro e w7 ⟨rfl, hc7⟩
      have HNA7 := Lib.hid (HNA6.out.quiet hc7)
      have HC7 := Lib.hid (HC6.out.trans hc7 (by simp))
      clear hc7 HNA6 HC6 HV56 HV6
      go_wp2_with (fail)
      refine (allC_all HNA7.out (by omega) HG.out.valid).mono ?_
      rintro e w8 ⟨A8, c8, ms8, rfl, hm8, h8⟩
      have hl8 : ((ms8.length : Int) == (ls.length : Int)) = true := by
        have h9 := congrArg List.length hm8
        rw [List.length_map] at h9
        rw [beq_iff_eq, h9, HLN.out]
      have HC8 := Lib.hid (HC7.out.trans h8.chg (by simp))
      clear hm8 h8 HNA7 HC7
      go_wp2_with (fail)
      refine (known_any _).mono ?_
      rintro e wk ⟨rfl, hck⟩
      go_wp2_with (fail)
      go_ret
      exact ⟨rfl, HC8.out.trans hck (by simp)⟩
    | succ k =>
      have hk : k < ls.length := by omega
      have hkk : (((k + 1 : Nat) : Int)) - 1 = (k : Int) := by omega
      rw [hkk]
      clear hkk
      have HE : Hid ((ls.drop k).reverse = (ls.drop (k + 1)).reverse ++ [ls[k]]) := by unfold Hid; rw [List.drop_eq_getElem_cons hk, List.reverse_cons]
      have HLk := HLA.out.rd.keep0 (hcOf.out.trans hch (by simp))
      obtain ⟨ad, hAd, had, hc0, hc⟩ := HLk.getV hk
      have d1 := hc 1 _ (by omega) rfl
      have d2 := hc 2 _ (by omega) rfl
      have d3 := hc 3 _ (by omega) rfl
      have d4 := hc 4 _ (by omega) rfl
      have d5 := hc 5 _ (by omega) rfl
      have hki : (k : Int) < (ls.length : Int) := by omega
      have hk0 : (0 : Int) ≤ (k : Int) := by omega
      clear hc HLk
      rw [hAd]
      obtain ⟨vx, hvx⟩ : ∃ vx, ls[k] = vx := ⟨_, rfl⟩
      rw [hvx] at hc0 d1 d2 d3 d4 d5 HE
      clear hvx
      obtain ⟨m, q, o, A', d, p, g, t⟩ := vx
      simp only at hc0 d1 d2 d3 d4 d5
      have hs1 : ls.length - (k + 1) + 1 = ls.length - k := by omega
      obtain ⟨N, hN⟩ : ∃ N, ls.length - (k + 1) = N := ⟨_, rfl⟩
      rw [hN] at HO hs1
      rw [hN]
      have hN2 : N ≤ 1000000 := by omega
      clear hN
      have HS1 := Lib.hid hs1
      clear hs1
      go_wp2_with (at_builtin; refine wpList_append_rd _ rfl (.tmp 23) (.tmp 28) 22 (by rfl) w2.heap.size 28 i1 _ 6 64 Try.underlying22 hi1 hy0 hy1 hy2 rfl (by omega) (.slice A2 N c2) N (cVr (ls.drop (k + 1)).reverse) (by rfl) (own_keep HO.out ((Chg.refl [] wr).alloc _) (fun _ _ hm => by simp at hm)) (some ⟨wr.heap.size, 0, none⟩) 1 1 [.int .i64 m, .int .i64 q, .int .i64 o, .slice A' d.length p, .bool g, .int .i64 t] (by rfl) (Rd.new' rfl rfl rfl) (by simp [Value.oneCell']) (by unfold maxLen; omega) (by omega) (by have := hch.size; simp; omega) ?_; intro A6 c6 w6 hown6 hg6 hb6)
      go_roundw
      case rel =>
        refine ⟨k, A6, c6, by omega, rfl, by rw [← HS1.out], ?_, (hch.alloc _).grown hg6 (fun j hj => .inr (HO.out.lt j hj).1)⟩
        rw [← HS1.out, HE.out, cVr_app]
        exact hown6
      case measure => simp [intOf]
end Go.Proofs.Ytmliclfepnebfaa
