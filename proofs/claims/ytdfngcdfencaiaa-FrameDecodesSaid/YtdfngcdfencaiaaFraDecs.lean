
/-
  FrameDecodes: the walk of the law.
-/
import Derived.Test.YtdfngcdfencaiaaFraL
import Derived.Test.YtdfngcdfencaiaaSep
namespace Go.Proofs.Ytdfngcdfencaiaa
open Go.RowKit
set_option linter.unusedVariables false

set_option maxRecDepth 100000 in
set_option maxHeartbeats 6400000 in
theorem frameDecodes_law (w : World) (x : SlB) (hx : RdB w x ∧ x.bs.length ≤ x.c ∧ x.c ≤ maxLen ∧ x.bs.length ≤ 140737488351232) :
    Calls Try.prog 7 #[.slice x.A x.bs.length x.c] w fun e w' => e = .returned (.bool true) ∧ Chg [] w w' := by
  obtain ⟨i0, hi, hz0, hz1, hz2⟩ := info_parts info8
  obtain ⟨A, c, L⟩ := x
  obtain ⟨rx, hxc, _, hxl⟩ := hx
  simp only [RdB] at rx hxc hxl ⊢
  have RX := Lib.hid rx
  clear rx
  by_cases hlen : 4000 < L.length
  · go_enter Try.func7, Try.ntmps7
    go_wp2_with (fail)
    go_ret
    exact ⟨rfl, Chg.refl _ _⟩
  have hL : L.length ≤ 4000 := by omega
  clear hlen
  have HMost := Lib.hid (scanF_most _ L (Nat.le_refl _))
  go_enter Try.func7, Try.ntmps7
  go_wp2_with (fail)
  (with_reducible refine (roomy_any _ A _ c L rfl RX.out (by omega)).mono ?_)
  rintro e w1 ⟨A1, c1, rfl, hown1, hch1⟩
  have h1 := (All.start w).row hch1 hown1
  have hcap1 := own_cap hown1
  have hrm : Hid (∀ w', w'.ownsRow 0 5 1 (.slice A1 (L.length + 1) c1) (L.length + 1) (cB (L ++ [171])) → Rd w' 1 A1 L.length (cB L)) := fun w' ho => by
    have h := (Rd.of_own ho).take (k := L.length) (by omega)
    have e : (cB (L ++ [171])).take (L.length * 1) = cB L := by
      rw [cB_app, List.take_append_of_le_length (by simp [cB_len]), List.take_of_length_le (by simp [cB_len])]
    rw [e] at h
    exact h
  have sL := fun w => run_slice_hi (P := Try.prog) w Try.underlying22 hi A1 (L.length + 1) c1 (L.length : Int) L.length rfl (by omega)
  obtain ⟨t, ht⟩ : ∃ t, Hid (decF L = t) := ⟨_, rfl⟩
  obtain ⟨u, hu⟩ : ∃ u, Hid (oneF L = u) := ⟨_, rfl⟩
  have hD : Hid (∀ w (A : Option Addr) (c : Nat), Rd w 1 A L.length (cB L) → L.length ≤ c → Calls Try.prog 9 #[.slice A L.length c] w (DecFPost w t)) := fun w A c hr hc => by have := frDecode_any w A _ c L rfl hr hc (by omega); rw [ht.out] at this; exact this
  have hDr : Hid (∀ w (A : Option Addr) (c : Nat), Rd w 1 A L.length (cB L) → L.length ≤ c → Calls Try.prog 17 #[.slice A L.length c] w (DecFPost w t)) := fun w A c hr hc => by have := refDecF_any w A _ c L rfl hr hc (by omega); rw [ht.out] at this; exact this
  have hO : Hid (∀ w (A : Option Addr) (c : Nat), Rd w 1 A L.length (cB L) → L.length ≤ c → Calls Try.prog 13 #[.slice A L.length c] w (OneFPost w u)) := fun w A c hr hc => by have := frOne_any w A _ c L rfl hr hc (by omega); rw [hu.out] at this; exact this
  have hOr : Hid (∀ w (A : Option Addr) (c : Nat), Rd w 1 A L.length (cB L) → L.length ≤ c → Calls Try.prog 18 #[.slice A L.length c] w (OneFPost w u)) := fun w A c hr hc => by have := refOneF_any w A _ c L rfl hr hc (by omega); rw [hu.out] at this; exact this
  have htl : t.p.length ≤ 4000 := by
    rw [← ht.out]
    by_cases he : (decF L).e = 0
    · have := decF_zero he; omega
    · rw [(decF_bad he).1]; simp
  have hul : u.1.length ≤ 4000 := by
    rw [← hu.out]
    unfold oneF
    split
    · simp
    · simp only; rw [ht.out]; exact htl
  obtain ⟨tp, tn, te⟩ := t
  obtain ⟨up, ue⟩ := u
  clear ht hu
  simp only at htl hul
  go_wp2_with (fail)
  refine (hD.out _ A1 c1 (hrm.out _ (h1.get 0 rfl)) (by omega)).mono ?_
  rintro e w2 ⟨A2, c2, rfl, hown2, hch2⟩
  have h2 := h1.row hch2 hown2
  simp only at h2 ⊢
  clear hown1 hown2 h1 hch1 hch2
  go_wp2_with (fail)
  refine (hDr.out _ A c (RX.out.keep0 h2.chg) (by omega)).mono ?_
  rintro e w3 ⟨A3, c3, rfl, hown3, hch3⟩
  have h3 := h2.row hch3 hown3
  simp only at h3 ⊢
  clear hown3 h2 hch3
  go_wp2_with (fail)
  refine (hO.out _ A1 c1 (hrm.out _ (h3.get 2 rfl)) (by omega)).mono ?_
  rintro e w4 ⟨A4, c4, rfl, hown4, hch4⟩
  have h4 := h3.row hch4 hown4
  simp only at h4 ⊢
  clear hown4 h3 hch4
  go_wp2_with (fail)
  refine (hOr.out _ A c (RX.out.keep0 h4.chg) (by omega)).mono ?_
  rintro e w5 ⟨A5, c5, rfl, hown5, hch5⟩
  have h5 := h4.row hch5 hown5
  simp only at h5 ⊢
  clear hown5 h4 hch5
  go_wp2_with (fail)
  refine (frScan_any _ A1 _ c1 L rfl (hrm.out _ (h5.get 4 rfl)) (by omega) (by omega)).mono ?_
  rintro e w6 ⟨A6, c6, ls, rfl, hls, hown6, hO6, hch6⟩
  have h6 := h5.quiet hch6
  have r6 := Lib.hid (Rd.of_own hown6)
  have R6 := Lib.hid (fun r hr => (Rd.of_own (hO6 r hr) : RdB w6 r))
  have HLS := Lib.hid hls
  clear hown6 h5 hch6 hO6 hls
  go_wp2_with (fail)
  refine (refScan_any _ A _ c L rfl (RX.out.keep0 h6.chg) (by omega) (by omega)).mono ?_
  rintro e w7 ⟨A7, c7, ls', rfl, hls', hown7, hO7, hch7⟩
  have h7 := h6.quiet hch7
  have r7 := Lib.hid (Rd.of_own hown7)
  have R7 := Lib.hid (fun r hr => (Rd.of_own (hO7 r hr) : RdB w7 r))
  have HLS' := Lib.hid (HLS.out.trans hls'.symm)
  have q6 := Lib.hid (r6.out.keep0 hch7)
  have Q6 := Lib.hid (fun r hr => (R6.out r hr).keep0 hch7)
  have hlsl : ls.length ≤ 4000 := by
    have h1 := HMost.out.1
    rw [← HLS.out, List.length_map] at h1; omega
  have hlsr : Hid (∀ r ∈ ls, r.bs.length ≤ 4000) := fun r hr => by
    have h1 := HMost.out.2 r.bs (by rw [← HLS.out]; exact List.mem_map_of_mem hr)
    omega
  obtain ⟨sn, hsn⟩ : ∃ sn, Hid ((scanF L).2 = sn) := ⟨_, rfl⟩
  rw [hsn.out]
  clear hown7 h6 hls' hO7 r6 R6
  have b1 : ((tn : Int) != (tn : Int)) = false := by simp
  have b2 : ((te : Int) != (te : Int)) = false := by simp
  have b3 : ((sn : Int) != (sn : Int)) = false := by simp
  have b4 : ((ue : Int) != (ue : Int)) = false := by simp
  have g2 := Lib.hid (Rd.of_own (h7.get 3 rfl))
  have g3 := Lib.hid (Rd.of_own (h7.get 2 rfl))
  have g4 := Lib.hid (Rd.of_own (h7.get 1 rfl))
  have g5 := Lib.hid (Rd.of_own (h7.get 0 rfl))
  clear hch7
  go_wp2_with (fail)
  (with_reducible refine (same_to _ _ _ _ _ _ _ tp tp true (by simp) rfl rfl g2.out g3.out (by omega)).mono ?_)
  rintro e w8 ⟨rfl, hch8⟩
  have Q8 : Hid (∀ r ∈ ls, RdB w8 r ∧ r.bs.length ≤ 1099511627776) := fun r hr => ⟨(Q6.out r hr).keep0 hch8, by have := hlsr.out r hr; omega⟩
  have R8 : Hid (∀ r ∈ ls', RdB w8 r) := fun r hr => (R7.out r hr).keep0 hch8
  go_wp2_with (fail)
  (with_reducible refine (rows_yes _ _ _ _ _ _ _ ls ls' HLS'.out rfl rfl (q6.out.keep0 hch8) (r7.out.keep0 hch8) Q8.out R8.out (by omega)).mono ?_)
  rintro e w9 ⟨rfl, hch9⟩
  have hch79 := hch8.trans hch9 (by simp)
  go_wp2_with (fail)
  (with_reducible refine (same_to _ _ _ _ _ _ _ up up true (by simp) rfl rfl (g4.out.keep0 hch79) (g5.out.keep0 hch79) (by omega)).mono ?_)
  rintro e w10 ⟨rfl, hch10⟩
  have h10 := (h7.quiet (hch79.trans hch10 (by simp))).front 3 rfl
  clear h7 hch8 hch9 hch79 hch10 q6 r7 Q6 R7 Q8 R8 g2 g3 g4 g5
  go_wp2_with (fail)
  (with_reducible refine (spoil_any _ 0 A2 _ c2 (cB tp) (h10.get 0 rfl) (by omega) (Nat.zero_le _)).mono ?_)
  rintro e w11 ⟨rfl, hch11⟩
  have h11 := h10.ruin hch11
  clear h10 hch11
  go_wp2_with (fail)
  (with_reducible refine (stands_any _ A1 A _ _ c1 c L rfl rfl (Rd.of_own (h11.get 3 rfl)) (RX.out.keep0 h11.chg) (by omega) (by omega)).mono ?_)
  rintro e w12 ⟨rfl, hch12⟩
  go_wp2_with (go_at_call 10; refine (knownF_any _).mono ?_; rintro e w13 ⟨rfl, hch13⟩)
  go_ret
  exact ⟨rfl, h11.chg.trans (hch12.trans hch13 (by simp)) (by simp)⟩
end Go.Proofs.Ytdfngcdfencaiaa
