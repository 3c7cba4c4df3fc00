
/-
  WireDecodes: the walk of the law.
-/
import Derived.Test.YtkdbjhmffnjimaaWirG
import Derived.Test.YtkdbjhmffnjimaaSameL
import Derived.OpenShut
namespace Go.Proofs.Ytkdbjhmffnjimaa
open Go.RowKit
set_option linter.unusedVariables false

set_option maxRecDepth 100000 in
set_option maxHeartbeats 6400000 in
theorem wireDecodes_law (w : World) (x : SlB) (hx : RdB w x ∧ x.bs.length ≤ x.c ∧ x.c ≤ maxLen ∧ x.bs.length ≤ 140737488351232) :
    Calls Try.prog 4 #[.slice x.A x.bs.length x.c] w fun e w' => e = .returned (.bool true) ∧ Chg [] w w' := by
  obtain ⟨i0, hi, hz0, hz1, hz2⟩ := info_parts info8
  obtain ⟨A, c, L⟩ := x
  obtain ⟨rx, hxc, _, hxl⟩ := hx
  simp only [RdB] at rx hxc hxl ⊢
  have RX := Lib.hid rx
  clear rx
  by_cases hlen : 8000 < L.length
  · go_enter Try.func4, Try.ntmps4
    go_wp2_with (fail)
    go_ret
    exact ⟨rfl, Chg.refl _ _⟩
  have hL : L.length ≤ 8000 := by omega
  clear hlen
  go_enter Try.func4, Try.ntmps4
  go_wp2_with (fail)
  (with_reducible refine (roomy_any _ A _ c L rfl RX.out (by omega)).mono ?_)
  rintro e w1 ⟨A1, c1, rfl, hown1, hch1⟩
  have hcap1 := own_cap hown1
  have hrm : Hid (∀ (b : Nat) (w' : World), w'.ownsRow b 5 1 (.slice A1 (L.length + 1) c1) (L.length + 1) (cB (L ++ [171])) → Rd w' 1 A1 L.length (cB L)) := fun b w' ho => by
    have h := (Rd.of_own ho).take (k := L.length) (by omega)
    have e : (cB (L ++ [171])).take (L.length * 1) = cB L := by
      rw [cB_app, List.take_append_of_le_length (by simp [cB_len]), List.take_of_length_le (by simp [cB_len])]
    rw [e] at h
    exact h
  have hbA : Hid (∀ k ∈ blk A1, w.heap.size ≤ k ∧ k < w1.heap.size) := fun k hk => hown1.lt k (by cases A1 <;> simp [blk] at hk; simp [Value.ownBlock, hk])
  have sL := fun w => run_slice_hi (P := Try.prog) w Try.underlying28 hi A1 (L.length + 1) c1 (L.length : Int) L.length rfl (by omega)
  have hD := Lib.hid (wDecode_any w1 A1 _ c1 L rfl (hrm.out _ _ hown1) (by omega) (by omega))
  have hF := Lib.hid (fun w' (hr : Rd w' 1 A L.length (cB L)) => refDecW_any w' A _ c L rfl hr (by omega) (by omega))
  unfold DecWPost at hD hF
  obtain ⟨⟨⟨kd, o, q, sm, sc, fm, fc, rs⟩, z⟩, ht⟩ : ∃ t, Hid (decW L = t) := ⟨_, rfl⟩
  have hrl : rs.length ≤ 64 := by
    by_cases hz : (decW L).2 = 0
    · obtain ⟨h1, -⟩ := decW_good hz
      rw [ht.out] at h1
      rcases isW_kind h1 with ⟨-, -, h⟩ | ⟨-, -, h⟩ | ⟨-, -, -, h⟩
      · exact (goesW_iff.1 h).2.2
      · simp only at h; rw [h]; simp
      · simp only at h; rw [h]; simp
    · have h1 : (decW L).1 = Wd.z := by
        unfold decW at hz ⊢
        split
        · rfl
        · rename_i h0
          rw [if_neg h0] at hz
          split
          · rename_i h2; rw [if_pos h2] at hz; exact absurd rfl hz
          · rfl
      rw [ht.out] at h1
      simp only [Wd.z, Wd.mk.injEq] at h1
      rw [h1.2.2.2.2.2.2.2]; simp
  rw [ht.out] at hD hF
  simp only at hD hF
  clear ht
  go_wp2_with (fail)
  refine hD.out.mono ?_
  rintro e w2 ⟨⟨xk, xo, xq, xsm, xsc, xfm, xfc, A2, l2, c2⟩, rfl, hx2, hown2, hO2, hch2⟩
  simp only [WdV.d, Wd.mk.injEq] at hx2
  obtain ⟨rfl, rfl, rfl, rfl, rfl, rfl, rfl, hl2⟩ := hx2
  simp only [WdV.cells] at hown2 hO2 ⊢
  have HL2 := Lib.hid hl2
  have o1a := own_k0 hown1 hch2
  have ca := hch1.trans hch2 (by simp)
  have a4 := At.new w2 26 #[.int .i64 xk, .int .i64 xo, .int .i64 xq, .int .i64 xsm, .int .i64 xsc, .int .i64 xfm, .int .i64 xfc, .slice A2 l2.length c2]
  have q3 := (Chg.refl [] w2).alloc (.cells #[.int .i64 xk, .int .i64 xo, .int .i64 xq, .int .i64 xsm, .int .i64 xsc, .int .i64 xfm, .int .i64 xfc, .slice A2 l2.length c2] 26)
  have o1b := own_k0 o1a q3
  have o2b := own_k0 hown2 q3
  have O2b : Hid (∀ r ∈ l2, OwnV (w2.alloc (.cells #[.int .i64 xk, .int .i64 xo, .int .i64 xq, .int .i64 xsm, .int .i64 xsc, .int .i64 xfm, .int .i64 xfc, .slice A2 l2.length c2] 26)) w1.heap.size r) := fun r hr => own_k0 (hO2 r hr) q3
  have cb := ca.t0 q3
  have hs2 := hch2.size
  clear hown1 hch1 hown2 hO2 hch2 hl2 hD o1a ca q3
  go_wp2_with (fail)
  refine (hF.out _ (RX.out.keep0 cb)).mono ?_
  rintro e w3 ⟨⟨xk, xo, xq, xsm, xsc, xfm, xfc, A3, l3, c3⟩, rfl, hx3, hown3, hO3, hch3⟩
  simp only [WdV.d, Wd.mk.injEq] at hx3
  obtain ⟨rfl, rfl, rfl, rfl, rfl, rfl, rfl, hl3⟩ := hx3
  simp only [WdV.cells] at hown3 hO3 ⊢
  have HLL := Lib.hid (HL2.out.trans hl3.symm)
  have hl2c : l2.length ≤ 64 := by have h := congrArg List.length HL2.out; simp only [List.length_map] at h; omega
  have hs3 := hch3.size
  simp at hs3
  have a4b := a4.keep hch3 (by simp)
  have o1c := own_k0 o1b hch3
  have o2c := own_k0 o2b hch3
  have O2c : Hid (∀ r ∈ l2, OwnV w3 w1.heap.size r) := fun r hr => own_k0 (O2b.out r hr) hch3
  have cc := cb.trans hch3 (by simp)
  have o3c := own_up hown3 (show w1.heap.size ≤ _ by simp; omega)
  have O3c : Hid (∀ r ∈ l3, OwnV w3 w1.heap.size r) := fun r hr => own_up (hO3 r hr) (by simp; omega)
  have q4 := (Chg.refl [] w3).alloc (.cells #[.int .i64 xk, .int .i64 xo, .int .i64 xq, .int .i64 xsm, .int .i64 xsc, .int .i64 xfm, .int .i64 xfc, .slice A3 l3.length c3] 34)
  have a6 := At.new w3 34 #[.int .i64 xk, .int .i64 xo, .int .i64 xq, .int .i64 xsm, .int .i64 xsc, .int .i64 xfm, .int .i64 xfc, .slice A3 l3.length c3]
  have a4c := a4b.keep q4 (by simp)
  have o1d := own_k0 o1c q4
  have o2d := own_k0 o2c q4
  have O2d : Hid (∀ r ∈ l2, OwnV (w3.alloc (.cells #[.int .i64 xk, .int .i64 xo, .int .i64 xq, .int .i64 xsm, .int .i64 xsc, .int .i64 xfm, .int .i64 xfc, .slice A3 l3.length c3] 34)) w1.heap.size r) := fun r hr => own_k0 (O2c.out r hr) q4
  have o3d := own_k0 o3c q4
  have O3d : Hid (∀ r ∈ l3, OwnV (w3.alloc (.cells #[.int .i64 xk, .int .i64 xo, .int .i64 xq, .int .i64 xsm, .int .i64 xsc, .int .i64 xfm, .int .i64 xfc, .slice A3 l3.length c3] 34)) w1.heap.size r) := fun r hr => own_k0 (O3c.out r hr) q4
  have cd := cc.t0 q4
  clear hown3 hO3 hch3 hl3 a4 a4b o1b o1c o2b o2c O2b O2c o3c O3c cb cc q4 hF
  have y0 := a4c.cell 0
  have y1 := a4c.cell 1
  have y2 := a4c.cell 2
  have y3 := a4c.cell 3
  have y4 := a4c.cell 4
  have y5 := a4c.cell 5
  have y6 := a4c.cell 6
  have y7 := a4c.cell 7
  simp only [List.getElem?_toArray, List.getElem?_cons_zero, List.getElem?_cons_succ] at y0 y1 y2 y3 y4 y5 y6 y7
  have u0 := a6.cell 0
  have u1 := a6.cell 1
  have u2 := a6.cell 2
  have u3 := a6.cell 3
  have u4 := a6.cell 4
  have u5 := a6.cell 5
  have u6 := a6.cell 6
  have u7 := a6.cell 7
  simp only [List.getElem?_toArray, List.getElem?_cons_zero, List.getElem?_cons_succ] at u0 u1 u2 u3 u4 u5 u6 u7
  go_wp2_with (fail)
  generalize w3.alloc (.cells #[.int .i64 xk, .int .i64 xo, .int .i64 xq, .int .i64 xsm, .int .i64 xsc, .int .i64 xfm, .int .i64 xfc, .slice A3 l3.length c3] 34) = w4 at *
  have hWY := Lib.hid (fun (w' : World) (h2 : w'.ownsRow w1.heap.size 50 9 (.slice A2 l2.length c2) l2.length (cRc l2)) (H2 : ∀ r ∈ l2, OwnV w' w1.heap.size r) (h3 : w'.ownsRow w1.heap.size 50 9 (.slice A3 l3.length c3) l3.length (cRc l3)) (H3 : ∀ r ∈ l3, OwnV w' w1.heap.size r) => words_yes w' xk xo xq xsm xsc xfm xfc A2 A3 _ _ c2 c3 l2 l3 HLL.out rfl rfl (Rd.of_own h2) (Rd.of_own h3) (fun x hx => Rd.of_own (H2 x hx)) (fun x hx => Rd.of_own (H3 x hx)) (by omega))
  refine (hWY.out w4 o2d O2d.out o3d O3d.out).mono ?_
  rintro e w5 ⟨rfl, hch5⟩
  have a45 := a4c.keep hch5 (by simp)
  have a65 := a6.keep hch5 (by simp)
  have o15 := own_k0 o1d hch5
  have o25 := own_k0 o2d hch5
  have O25 : Hid (∀ r ∈ l2, OwnV w5 w1.heap.size r) := fun r hr => own_k0 (O2d.out r hr) hch5
  have o35 := own_k0 o3d hch5
  have O35 : Hid (∀ r ∈ l3, OwnV w5 w1.heap.size r) := fun r hr => own_k0 (O3d.out r hr) hch5
  have c5 := cd.trans hch5 (by simp)
  have hzb : ((z : Int) == (z : Int)) = true := by simp
  clear y0 y1 y2 y3 y4 y5 y6 y7 u0 u1 u2 u3 u4 u5 u6 u7 a4c a6 o1d o2d O2d o3d O3d cd hch5
  go_wp2_with (fail)
  refine (stands_any w5 A1 A (L.length + 1) _ c1 c L rfl rfl (Rd.of_own o15) (RX.out.keep0 c5) hcap1 (by omega)).mono ?_
  rintro e w6 ⟨rfl, hch6⟩
  have o16 := own_k0 o15 hch6
  have c6 := c5.trans hch6 (by simp)
  have hs6 := c6.size
  go_wp2_with (fail)
  refine (spoil_any w6 w.heap.size A1 (L.length + 1) c1 _ o16 (by omega) hs6).mono ?_
  rintro e w7 ⟨rfl, hch7⟩
  have hch67 : Chg (blk A1) w5 w7 := (hch6.mono (by simp)).trans hch7 (fun _ h => .inl h)
  have hnb : Hid (∀ k, w1.heap.size ≤ k → k ∉ blk A1) := fun k hk hm => by have := (hbA.out k hm).2; omega
  have a47 := a45.keep hch67 (hnb.out _ (by omega))
  have a67 := a65.keep hch67 (hnb.out _ (by omega))
  have o27 := own_keep o25 hch67 (fun k hk => hnb.out k (o25.lt k hk).1)
  have O27 : Hid (∀ r ∈ l2, OwnV w7 w1.heap.size r) := fun r hr => own_keep (O25.out r hr) hch67 (fun k hk => hnb.out k ((O25.out r hr).lt k hk).1)
  have o37 := own_keep o35 hch67 (fun k hk => hnb.out k (o35.lt k hk).1)
  have O37 : Hid (∀ r ∈ l3, OwnV w7 w1.heap.size r) := fun r hr => own_keep (O35.out r hr) hch67 (fun k hk => hnb.out k ((O35.out r hr).lt k hk).1)
  have c7 : Chg [] w w7 := c5.trans hch67 (fun k hk => .inr (hbA.out k hk).1)
  clear a45 a65 o15 o25 O25 o35 O35 o16 c6 hch6 hch7 hch67
  have y0 := a47.cell 0
  have y1 := a47.cell 1
  have y2 := a47.cell 2
  have y3 := a47.cell 3
  have y4 := a47.cell 4
  have y5 := a47.cell 5
  have y6 := a47.cell 6
  have y7 := a47.cell 7
  simp only [List.getElem?_toArray, List.getElem?_cons_zero, List.getElem?_cons_succ] at y0 y1 y2 y3 y4 y5 y6 y7
  have u0 := a67.cell 0
  have u1 := a67.cell 1
  have u2 := a67.cell 2
  have u3 := a67.cell 3
  have u4 := a67.cell 4
  have u5 := a67.cell 5
  have u6 := a67.cell 6
  have u7 := a67.cell 7
  simp only [List.getElem?_toArray, List.getElem?_cons_zero, List.getElem?_cons_succ] at u0 u1 u2 u3 u4 u5 u6 u7
  go_wp2_with (fail)
  refine (hWY.out w7 o27 O27.out o37 O37.out).mono ?_
  rintro e w8 ⟨rfl, hch8⟩
  go_wp2_with (go_at_call 14; (with_reducible refine (knownW_any _).mono ?_); rintro e w9 ⟨rfl, hch9⟩)
  go_ret
  exact ⟨rfl, (c7.trans hch8 (by simp)).trans hch9 (by simp)⟩
end Go.Proofs.Ytkdbjhmffnjimaa
