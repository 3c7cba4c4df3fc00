
/-
  The reference's List.
-/
import Derived.Test.YtdfkednggjelcaaRecLi
namespace Go.Proofs.Ytdfkednggjelcaa
open Go.RowKit
set_option linter.unusedVariables false

set_option maxRecDepth 100000 in
set_option maxHeartbeats 6400000 in
theorem refListR_any (w : World) (A : Option Addr) (n c : Nat) (ls : List RcV) (hn : ls.length = n) (hr : Rd w 9 A ls.length (cRc ls)) (hrs : ∀ x ∈ ls, Rd w 1 x.A x.r.val.length (cB x.r.val)) (hls : ls.length ≤ 1099511627776) :
    Calls Try.prog 60 #[.slice A n c] w (ListPost w (lstR (ls.map RcV.r))) := by
  subst hn
  obtain ⟨i0, hi, hz0, hz1, hz2⟩ := info_parts info8
  have HR := Lib.hid hr
  have HRS := Lib.hid hrs
  clear hr hrs
  by_cases h64 : 64 < ls.length
  · go_enter Try.func60, Try.ntmps60
    go_wp2_with (fail)
    go_ret2
    exact ListPost.bad 5 (lstR_5 (by simpa using h64)) (Chg.refl _ _)
  have h64' : ls.length ≤ 64 := by omega
  clear h64 hls
  go_enter Try.func60, Try.ntmps60
  go_wp2_with (fail)
  refine (refNum_any (ls.length : Int) _ (by omega) (by omega)).mono ?_
  rintro e w3 ⟨A3, c3, rfl, hown3, hch3⟩
  have hE0 : Hid (enc (clamp (ls.length : Int)) = encs ([((ls.map RcV.r).length : Int)].map clamp)) := by unfold Hid; rw [List.length_map]; simp [encs]
  have hE9 : (enc (clamp (ls.length : Int))).length ≤ 9 := enc_len9 (clamp_le _)
  obtain ⟨E0, hE0'⟩ : ∃ E0, Hid (enc (clamp (ls.length : Int)) = E0) := ⟨_, rfl⟩
  rw [hE0'.out] at hE0 hE9 hown3 ⊢
  clear hE0'
  go_wp2_with (fail)
  go_loopw [4, 5] (fun s i wr => ∃ (k : Nat) (A4 : Option Addr) (c4 : Nat) (P : List UInt8), k ≤ ls.length ∧ i = .int .i64 k ∧ s = .slice A4 P.length c4 ∧ P.length ≤ 100000 ∧ Hid (∀ r ∈ (ls.take k).map RcV.r, isR r = true) ∧ Hid (P = E0 ++ encRows (((ls.take k).map RcV.r).map encR)) ∧
      wr.ownsRow w.heap.size 5 1 (.slice A4 P.length c4) P.length (cB P) ∧ Chg [] w wr) (fun _ i _ => ls.length - (intOf i).toNat)
  case atStart => exact ⟨0, A3, c3, E0, Nat.zero_le _, rfl, rfl, by omega, by simp [Hid], by simp [Hid, encRows], hown3, hch3⟩
  case round =>
    obtain ⟨k, A4, c4, P, hk, rfl, rfl, hPl, HI, HP, hown, hch⟩ := hrel
    by_cases hlt : k < ls.length
    · obtain ⟨ad, rfl, had, hc0, hc⟩ := (HR.out.keep0 hch).getR hlt
      have hmem := List.getElem_mem hlt
      have HV := Lib.hid ((HRS.out _ hmem).keep0 hch)
      have HT := Lib.hid (take_r hlt)
      have HME : Hid (ls[k].r ∈ ls.map RcV.r) := List.mem_map_of_mem hmem
      have hc1 := hc 1 _ (by omega) rfl
      have hc2 := hc 2 _ (by omega) rfl
      have hc3 := hc 3 _ (by omega) rfl
      have hc4 := hc 4 _ (by omega) rfl
      have hc5 := hc 5 _ (by omega) rfl
      have hc6 := hc 6 _ (by omega) rfl
      have hc7 := hc 7 _ (by omega) rfl
      have hc8 := hc 8 _ (by omega) rfl
      generalize ls[k] = r at *
      clear hc hmem
      obtain ⟨⟨o, q, key, m, c', vo, val, gone, ttl⟩, A', cp⟩ := r
      simp only at hc0 hc1 hc2 hc3 hc4 hc5 hc6 hc7 hc8 HT HV HME
      have hki : (k : Int) < (ls.length : Int) := by omega
      obtain ⟨s, hs⟩ : ∃ s, Hid (isR ⟨o, q, key, m, c', vo, val, gone, ttl⟩ = s) := ⟨_, rfl⟩
      cases s
      · go_wp2_with (fail)
        refine (refEncR_no _ o q key m c' vo A' val cp gone ttl hs.out).mono ?_
        rintro e w5 ⟨rfl, hch5⟩
        go_wp2_with (fail)
        go_ret2
        exact ListPost.bad 1 (lstR_1 (by simpa using h64') HME.out hs.out) (hch.trans hch5 (by simp))
      · go_wp2_with (fail)
        refine (refEncR_yes _ o q key m c' vo A' val cp gone ttl hs.out HV.out).mono ?_
        rintro e w5 ⟨A5, c5, rfl, hown5, hch5⟩
        have hsm := encR_small (isR_iff.1 hs.out)
        have HI2 : Hid (∀ r ∈ (ls.take (k + 1)).map RcV.r, isR r = true) := by
          intro r hr
          rw [HT.out] at hr
          rcases List.mem_append.1 hr with hr | hr
          · exact HI.out r hr
          · obtain rfl := List.mem_singleton.1 hr; exact hs.out
        have HE2 : Hid (P ++ encRows [encR ⟨o, q, key, m, c', vo, val, gone, ttl⟩] = E0 ++ encRows (((ls.take (k + 1)).map RcV.r).map encR)) := by
          unfold Hid; rw [HT.out, List.map_append, List.map_singleton, encRows_snoc1, ← List.append_assoc, ← HP.out]
        have hr5 := Rd.of_own hown5
        have hl9 := enc_len9 (show (encR ⟨o, q, key, m, c', vo, val, gone, ttl⟩).length ≤ 4611686018427387904 by omega)
        have HPl : Hid ((E0 ++ encRows (((ls.take (k + 1)).map RcV.r).map encR)).length ≤ 100000) := by
          have h1 := rows_le _ HI2.out
          have h2 : ((ls.take (k + 1)).map RcV.r).length ≤ 64 := by simp; omega
          unfold Hid; rw [List.length_append]; omega
        obtain ⟨E, hE⟩ : ∃ E, Hid (encR ⟨o, q, key, m, c', vo, val, gone, ttl⟩ = E) := ⟨_, rfl⟩
        rw [hE.out] at hr5 hsm HE2 hl9 ⊢
        have hown' := own_k0 hown hch5
        have hch05 := hch.trans hch5 (by simp)
        clear hc0 hc1 hc2 hc3 hc4 hc5 hc6 hc7 hc8 HT hown hch5 hch hown5 hE HV HME had
        go_wp2_with (fail)
        (with_reducible refine (refBytes_any _ _ _ _ E rfl hr5 (by omega)).mono ?_)
        rintro e w6 ⟨A6, c6, rfl, hown6, hch6⟩
        have hER : Hid (enc E.length ++ E = encRows [E]) := by simp [Hid, encRows]
        have hEl : (enc E.length ++ E).length ≤ 2000 := by rw [List.length_append]; omega
        rw [hER.out] at hown6 hEl ⊢
        obtain ⟨F, hF⟩ : ∃ F, Hid (encRows [E] = F) := ⟨_, rfl⟩
        rw [hF.out] at hown6 hEl HE2 ⊢
        have hown'' := own_k0 hown' hch6
        have hch06 := hch05.trans hch6 (by simp)
        have hsz := hch06.size
        clear hown' hch6 hch05 hr5 hF hER
        go_wp2_with (at_builtin; refine wpList_append_rd _ rfl (.tmp 30) (.tmp 32) 47 (by rfl) w.heap.size 5 i0 _ 1 1 Try.underlying47 hi hz0 hz1 hz2 rfl (by omega) (.slice A4 P.length c4) P.length (cB P) (by rfl) hown'' A6 F.length c6 (cB F) (by rfl) (Rd.of_own hown6) (cB_one _) (by unfold maxLen; omega) (by omega) (by omega) ?_; intro A7 c7 w7 hown7 hg7 hb7)
        rw [← cB_app] at hown7
        go_roundw
        case rel =>
          refine ⟨k + 1, A7, c7, P ++ F, by omega, by go_num, by rw [List.length_append], by rw [HE2.out]; exact HPl.out, HI2, HE2, by rw [List.length_append]; exact hown7, hch06.grown hg7 (fun j hj => .inr (hown''.lt j hj).1)⟩
        case measure => simp [intOf]; omega
    · obtain rfl : k = ls.length := by omega
      rw [List.take_length] at HI HP
      have HL : Hid (lstR (ls.map RcV.r) = (P, 0)) := by
        unfold Hid; rw [lstR_0 (by simpa using h64') HI.out, HP.out]
        unfold encL
        rw [← hE0.out]
      go_wp2_with (fail)
      go_ret2
      rw [HL.out]
      exact ⟨A4, c4, rfl, hown, hch⟩
end Go.Proofs.Ytdfkednggjelcaa
