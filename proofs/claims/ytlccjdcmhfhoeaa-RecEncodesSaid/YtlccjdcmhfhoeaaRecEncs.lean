
/-
  RecEncodes: the walk of the law.
-/
import Derived.Test.YtlccjdcmhfhoeaaRecCuts
import Derived.Test.YtlccjdcmhfhoeaaRecG
namespace Go.Proofs.Ytlccjdcmhfhoeaa
open Go.RowKit Go.ChangeShapes
set_option linter.unusedVariables false

set_option maxRecDepth 100000 in
set_option maxHeartbeats 6400000 in
theorem recEncodes_law (w : World) (x : RcV) (hx : x.In w) :
    Calls Try.prog 5 #[.agg x.cells.toArray] w fun e w' => e = .returned (.bool true) ∧ Chg [] w w' := by
  rw [x.arr]
  obtain ⟨i0, hi, hz0, hz1, hz2⟩ := info_parts info8
  obtain ⟨⟨o, q, key, m, c, vo, val, gone, ttl⟩, A, cp⟩ := x
  obtain ⟨rx, hcap, _, kx, vx, _⟩ := hx
  simp only at rx kx vx hcap ⊢
  have RX := Lib.hid rx
  clear rx
  have h1 := (All.start w).newAt 28 #[.int .i64 o, .int .i64 q, .string ⟨key.toArray⟩, .int .i64 m, .int .i64 c, .int .i64 vo, .slice A val.length cp, .bool gone, .int .i64 ttl] rfl
  go_enter Try.func5, Try.ntmps5
  go_wp2_with (fail)
  refine (heavyR_any _ _ _ _ [⟨⟨o, q, key, m, c, vo, val, gone, ttl⟩, A, cp⟩] rfl (Rd.new' (by simp) rfl rfl) (by simp) (by intro z hz; obtain rfl := List.mem_singleton.1 hz; exact ⟨kx, vx⟩)).mono ?_
  rintro e w1 ⟨hv1, rfl, hlight, hch1⟩
  have h2 := (h1.quiet ((Chg.refl [] _).alloc _)).quiet hch1
  clear h1 hch1
  have hat1 := h2.get 0 rfl
  cases hv1
  · have hlt := hlight rfl
    simp at hlt
    have hkl : key.length ≤ 6000 := by omega
    have hvl : val.length ≤ 6000 := by omega
    have hz1' := hat1.lt
    have a0 := hat1.cell 0
    have a1 := hat1.cell 1
    have a2 := hat1.cell 2
    have a3 := hat1.cell 3
    have a4 := hat1.cell 4
    have a5 := hat1.cell 5
    have a6 := hat1.cell 6
    have a7 := hat1.cell 7
    have a8 := hat1.cell 8
    clear hlight hlt
    go_upto_region 5 with (fail)
    have h3 := h2.newAt 28 #[.int .i64 o, .int .i64 q, .string ⟨key.toArray⟩, .int .i64 m, .int .i64 c, .int .i64 vo, .slice A val.length cp, .bool gone, .int .i64 ttl] (g := w1.heap.size) rfl
    have hgne : w1.heap.size ≠ w.heap.size := by omega
    clear h2 hat1 a0 a1 a2 a3 a4 a5 a6 a7 a8 hz1'
    generalize w1.alloc (.cells #[.int .i64 o, .int .i64 q, .string ⟨key.toArray⟩, .int .i64 m, .int .i64 c, .int .i64 vo, .slice A val.length cp, .bool gone, .int .i64 ttl] 28) = wb at *
    generalize w1.heap.size = g at *
    have ha0 := h3.get 1 rfl
    have ha1 := h3.get 0 rfl
    have y6 := ha0.cell 6
    simp only [List.getElem?_toArray, List.getElem?_cons_zero, List.getElem?_cons_succ] at y6
    have RB := Lib.hid (RX.out.keep0 h3.chg)
    have hlt0 := ha0.lt
    have hlt1 := ha1.lt
    go_cut [22] (fun s wx => ∃ A1 c1, Hid (val.length + 1 ≤ c1) ∧ All w wx [rAt g 28 #[.int .i64 o, .int .i64 q, .string ⟨key.toArray⟩, .int .i64 m, .int .i64 c, .int .i64 vo, .slice A1 val.length c1, .bool gone, .int .i64 ttl], rRow 0 5 A1 (val.length + 1) c1 (cB (val ++ [171])), rAt w.heap.size 28 #[.int .i64 o, .int .i64 q, .string ⟨key.toArray⟩, .int .i64 m, .int .i64 c, .int .i64 vo, .slice A val.length cp, .bool gone, .int .i64 ttl]])
    case first =>
      go_region_held3 (fun w' => w'.cell? ⟨w.heap.size, 6, none⟩ = some (.slice A val.length cp)) (first | go_keep | fail)
        (first
          | (go_simp; go_at_call 18; (with_reducible refine (roomy_any _ A _ cp val rfl (Rd.k0 RB.out (by repeat' (first | (with_reducible assumption) | (with_reducible exact Chg.refl _ _) | (with_reducible refine Chg.alloc ?_ _) | (with_reducible refine Chg.drewN ?_ _) | (with_reducible refine Chg.drew ?_) | (with_reducible refine Chg.strW ?_ _ _) | (with_reducible refine Chg.t0 ?_ (by with_reducible assumption))))) (by omega)).mono ?_); rintro e w3 ⟨A3, c3, rfl, hown3, hch3⟩; have hch23 : Hid (Chg [] wb w3) := ((by repeat' (first | (with_reducible assumption) | (with_reducible exact Chg.refl _ _) | (with_reducible refine Chg.alloc ?_ _) | (with_reducible refine Chg.drewN ?_ _) | (with_reducible refine Chg.drew ?_) | (with_reducible refine Chg.strW ?_ _ _) | (with_reducible refine Chg.t0 ?_ (by with_reducible assumption)))) : Chg [] wb w3); have cap3 := own_cap hown3; have d6 := (ha0.keep hch23.out (by simp)).cell 6; have b6 := (ha1.keep hch23.out (by simp)).cell 6; have f6 := (ha1.keep hch23.out (by simp)).free 6; simp only [List.getElem?_toArray, List.getElem?_cons_zero, List.getElem?_cons_succ] at d6 b6; have sL := fun w => run_slice_hi (P := Try.prog) w Try.underlying24 hi A3 (val.length + 1) c3 (val.length : Int) val.length rfl (by omega); have hR3 : All w w3 [rRow 0 5 A3 (val.length + 1) c3 (cB (val ++ [171])), rAt g 28 #[.int .i64 o, .int .i64 q, .string ⟨key.toArray⟩, .int .i64 m, .int .i64 c, .int .i64 vo, .slice A val.length cp, .bool gone, .int .i64 ttl], rAt w.heap.size 28 #[.int .i64 o, .int .i64 q, .string ⟨key.toArray⟩, .int .i64 m, .int .i64 c, .int .i64 vo, .slice A val.length cp, .bool gone, .int .i64 ttl]] := (h3.quiet (show Chg [] wb _ from (by repeat' (first | (with_reducible assumption) | (with_reducible exact Chg.refl _ _) | (with_reducible refine Chg.alloc ?_ _) | (with_reducible refine Chg.drewN ?_ _) | (with_reducible refine Chg.drew ?_) | (with_reducible refine Chg.strW ?_ _ _) | (with_reducible refine Chg.t0 ?_ (by with_reducible assumption)))))).row hch3 hown3))
      all_goals
        go_wp2_with (fail)
        go_meet
        refine ⟨A3, c3, cap3, ?_⟩
        have hF := hR3.front 1 rfl
        have hF' := All.same (P' := fun w => At w g 28 #[.int .i64 o, .int .i64 q, .string ⟨key.toArray⟩, .int .i64 m, .int .i64 c, .int .i64 vo, .slice A3 val.length c3, .bool gone, .int .i64 ttl]) hF ((Chg.refl [g] _).setCell (p := ⟨g, 6, none⟩) (.inl (by simp)) (.slice A3 val.length c3)) (by simpa using (At.set_ (hF.get 0 rfl) 6 (.slice A3 val.length c3))) (rAt_stable _ _ _ _)
        first | exact hF' | exact hF'.drewN 1 | exact hF'.drewN 2 | exact hF'.drewN 3
    case rest =>
      obtain ⟨A1, c1, hcap1, h4⟩ := hcut
      have hrv : Hid (∀ w' : World, w'.ownsRow 0 5 1 (.slice A1 (val.length + 1) c1) (val.length + 1) (cB (val ++ [171])) → w'.ownsRow 0 5 1 (.slice A1 val.length c1) val.length (cB val)) := fun w' ho => by
        have h := own_prefix ho (m := val.length) (by omega)
        have e : (cB (val ++ [171])).take val.length = cB val := by
          rw [cB_app, List.take_append_of_le_length (by simp [cB_len]), List.take_of_length_le (by simp [cB_len])]
        rw [e] at h
        exact h
      clear h3 ha0 ha1 y6 RB hlt0 hlt1
      have hgh4 := h4.get 0 rfl
      have hbh4 := h4.get 2 rfl
      have zg := hgh4.lt
      have zb := hbh4.lt
      have d0 := hgh4.cell 0
      have d1 := hgh4.cell 1
      have d2 := hgh4.cell 2
      have d3 := hgh4.cell 3
      have d4 := hgh4.cell 4
      have d5 := hgh4.cell 5
      have d6 := hgh4.cell 6
      have d7 := hgh4.cell 7
      have d8 := hgh4.cell 8
      have a0 := hbh4.cell 0
      have a1 := hbh4.cell 1
      have a2 := hbh4.cell 2
      have a3 := hbh4.cell 3
      have a4 := hbh4.cell 4
      have a5 := hbh4.cell 5
      have a6 := hbh4.cell 6
      have a7 := hbh4.cell 7
      have a8 := hbh4.cell 8
      simp only [List.getElem?_toArray, List.getElem?_cons_zero, List.getElem?_cons_succ] at a0 a1 a2 a3 a4 a5 a6 a7 a8 d0 d1 d2 d3 d4 d5 d6 d7 d8
      clear hgh4 hbh4
      obtain ⟨s, hs⟩ : ∃ s, Hid (isR ⟨o, q, key, m, c, vo, val, gone, ttl⟩ = s) := ⟨_, rfl⟩
      cases s
      · go_wp2_with (fail)
        refine (recEncode_no _ o q key m c vo A1 val c1 gone ttl hs.out).mono ?_
        rintro e w5 ⟨rfl, hch5⟩
        have h5 := h4.quiet hch5
        clear zg zb a0 a1 a2 a3 a4 a5 a6 a7 a8 d0 d1 d2 d3 d4 d5 d6 d7 d8
        have hgh5 := h5.get 0 rfl
        have hbh5 := h5.get 2 rfl
        have zg := hgh5.lt
        have zb := hbh5.lt
        have d0 := hgh5.cell 0
        have d1 := hgh5.cell 1
        have d2 := hgh5.cell 2
        have d3 := hgh5.cell 3
        have d4 := hgh5.cell 4
        have d5 := hgh5.cell 5
        have d6 := hgh5.cell 6
        have d7 := hgh5.cell 7
        have d8 := hgh5.cell 8
        have a0 := hbh5.cell 0
        have a1 := hbh5.cell 1
        have a2 := hbh5.cell 2
        have a3 := hbh5.cell 3
        have a4 := hbh5.cell 4
        have a5 := hbh5.cell 5
        have a6 := hbh5.cell 6
        have a7 := hbh5.cell 7
        have a8 := hbh5.cell 8
        simp only [List.getElem?_toArray, List.getElem?_cons_zero, List.getElem?_cons_succ] at a0 a1 a2 a3 a4 a5 a6 a7 a8 d0 d1 d2 d3 d4 d5 d6 d7 d8
        clear hgh5 hbh5
        clear h4 hch5
        go_wp2_with (fail)
        refine (refEncR_no _ o q key m c vo A val cp gone ttl hs.out).mono ?_
        rintro e w6 ⟨rfl, hch6⟩
        have h6 := h5.quiet hch6
        clear zg zb a0 a1 a2 a3 a4 a5 a6 a7 a8 d0 d1 d2 d3 d4 d5 d6 d7 d8
        have hgh6 := h6.get 0 rfl
        have hbh6 := h6.get 2 rfl
        have zg := hgh6.lt
        have zb := hbh6.lt
        have d0 := hgh6.cell 0
        have d1 := hgh6.cell 1
        have d2 := hgh6.cell 2
        have d3 := hgh6.cell 3
        have d4 := hgh6.cell 4
        have d5 := hgh6.cell 5
        have d6 := hgh6.cell 6
        have d7 := hgh6.cell 7
        have d8 := hgh6.cell 8
        have a0 := hbh6.cell 0
        have a1 := hbh6.cell 1
        have a2 := hbh6.cell 2
        have a3 := hbh6.cell 3
        have a4 := hbh6.cell 4
        have a5 := hbh6.cell 5
        have a6 := hbh6.cell 6
        have a7 := hbh6.cell 7
        have a8 := hbh6.cell 8
        simp only [List.getElem?_toArray, List.getElem?_cons_zero, List.getElem?_cons_succ] at a0 a1 a2 a3 a4 a5 a6 a7 a8 d0 d1 d2 d3 d4 d5 d6 d7 d8
        clear hgh6 hbh6
        clear h5 hch6
        go_wp2_with (fail)
        (with_reducible refine (same_to _ none none 0 0 0 0 [] [] true (by decide) rfl rfl (Rd.nil _ _ _) (Rd.nil _ _ _) (by simp)).mono ?_)
        rintro e w7 ⟨rfl, hch7⟩
        have h7 := h6.quiet hch7
        clear zg zb a0 a1 a2 a3 a4 a5 a6 a7 a8 d0 d1 d2 d3 d4 d5 d6 d7 d8
        have hgh7 := h7.get 0 rfl
        have hbh7 := h7.get 2 rfl
        have zg := hgh7.lt
        have zb := hbh7.lt
        have d0 := hgh7.cell 0
        have d1 := hgh7.cell 1
        have d2 := hgh7.cell 2
        have d3 := hgh7.cell 3
        have d4 := hgh7.cell 4
        have d5 := hgh7.cell 5
        have d6 := hgh7.cell 6
        have d7 := hgh7.cell 7
        have d8 := hgh7.cell 8
        have a0 := hbh7.cell 0
        have a1 := hbh7.cell 1
        have a2 := hbh7.cell 2
        have a3 := hbh7.cell 3
        have a4 := hbh7.cell 4
        have a5 := hbh7.cell 5
        have a6 := hbh7.cell 6
        have a7 := hbh7.cell 7
        have a8 := hbh7.cell 8
        simp only [List.getElem?_toArray, List.getElem?_cons_zero, List.getElem?_cons_succ] at a0 a1 a2 a3 a4 a5 a6 a7 a8 d0 d1 d2 d3 d4 d5 d6 d7 d8
        clear hgh7 hbh7
        clear h6 hch7
        go_wp2_with (fail)
        refine (recIs_any _ o q key m c vo A val cp gone ttl).mono ?_
        rw [hs.out]
        rintro e w8 ⟨rfl, hch8⟩
        have h8 := h7.quiet hch8
        clear zg zb a0 a1 a2 a3 a4 a5 a6 a7 a8 d0 d1 d2 d3 d4 d5 d6 d7 d8
        have hgh8 := h8.get 0 rfl
        have hbh8 := h8.get 2 rfl
        have zg := hgh8.lt
        have zb := hbh8.lt
        have d0 := hgh8.cell 0
        have d1 := hgh8.cell 1
        have d2 := hgh8.cell 2
        have d3 := hgh8.cell 3
        have d4 := hgh8.cell 4
        have d5 := hgh8.cell 5
        have d6 := hgh8.cell 6
        have d7 := hgh8.cell 7
        have d8 := hgh8.cell 8
        have a0 := hbh8.cell 0
        have a1 := hbh8.cell 1
        have a2 := hbh8.cell 2
        have a3 := hbh8.cell 3
        have a4 := hbh8.cell 4
        have a5 := hbh8.cell 5
        have a6 := hbh8.cell 6
        have a7 := hbh8.cell 7
        have a8 := hbh8.cell 8
        simp only [List.getElem?_toArray, List.getElem?_cons_zero, List.getElem?_cons_succ] at a0 a1 a2 a3 a4 a5 a6 a7 a8 d0 d1 d2 d3 d4 d5 d6 d7 d8
        clear hgh8 hbh8
        clear h7 hch8
        go_wp2_with (fail)
        (with_reducible refine (same_to _ _ _ _ _ _ _ val val true (by simp) rfl rfl (Rd.of_own (hrv.out _ (h8.get 1 rfl))) (RX.out.keep0 h8.chg) (by omega)).mono ?_)
        rintro e w9 ⟨rfl, hch9⟩
        have h9 := (h8.quiet hch9).front 1 rfl
        clear zg zb a0 a1 a2 a3 a4 a5 a6 a7 a8 d0 d1 d2 d3 d4 d5 d6 d7 d8
        have hgh9 := h9.get 1 rfl
        have hbh9 := h9.get 2 rfl
        have zg := hgh9.lt
        have zb := hbh9.lt
        have d0 := hgh9.cell 0
        have d1 := hgh9.cell 1
        have d2 := hgh9.cell 2
        have d3 := hgh9.cell 3
        have d4 := hgh9.cell 4
        have d5 := hgh9.cell 5
        have d6 := hgh9.cell 6
        have d7 := hgh9.cell 7
        have d8 := hgh9.cell 8
        have a0 := hbh9.cell 0
        have a1 := hbh9.cell 1
        have a2 := hbh9.cell 2
        have a3 := hbh9.cell 3
        have a4 := hbh9.cell 4
        have a5 := hbh9.cell 5
        have a6 := hbh9.cell 6
        have a7 := hbh9.cell 7
        have a8 := hbh9.cell 8
        simp only [List.getElem?_toArray, List.getElem?_cons_zero, List.getElem?_cons_succ] at a0 a1 a2 a3 a4 a5 a6 a7 a8 d0 d1 d2 d3 d4 d5 d6 d7 d8
        clear hgh9 hbh9
        clear h8 hch9
        go_wp2_with (fail)
        (with_reducible refine (spoil_any _ 0 A1 _ c1 (cB val) (hrv.out _ (h9.get 0 rfl)) (by omega) (Nat.zero_le _)).mono ?_)
        rintro e w10 ⟨rfl, hch10⟩
        have h10 := h9.ruin hch10
        clear zg zb a0 a1 a2 a3 a4 a5 a6 a7 a8 d0 d1 d2 d3 d4 d5 d6 d7 d8
        go_wp2_with (go_at_call 14; (with_reducible refine (knownR_any _).mono ?_); rintro e w11 ⟨rfl, hch11⟩)
        go_ret
        exact ⟨rfl, h10.chg.trans hch11 (by simp)⟩
      · go_wp2_with (fail)
        refine (recEncode_yes _ o q key m c vo A1 val c1 gone ttl hs.out (Rd.of_own (hrv.out _ (h4.get 1 rfl)))).mono ?_
        rintro e w5 ⟨A5, c5, rfl, hown5, hch5⟩
        have hsm := encR_small (isR_iff.1 hs.out)
        have HDc := Lib.hid (decR_enc (isR_iff.1 hs.out))
        have HRE := Lib.hid (fun w hr => refEncR_yes w o q key m c vo A val cp gone ttl hs.out hr)
        obtain ⟨E, hE⟩ : ∃ E, Hid (encR ⟨o, q, key, m, c, vo, val, gone, ttl⟩ = E) := ⟨_, rfl⟩
        rw [hE.out] at hown5 hsm HDc HRE ⊢
        have h5 := h4.row hch5 hown5
        clear zg zb a0 a1 a2 a3 a4 a5 a6 a7 a8 d0 d1 d2 d3 d4 d5 d6 d7 d8
        have hgh5 := h5.get 1 rfl
        have hbh5 := h5.get 3 rfl
        have zg := hgh5.lt
        have zb := hbh5.lt
        have d0 := hgh5.cell 0
        have d1 := hgh5.cell 1
        have d2 := hgh5.cell 2
        have d3 := hgh5.cell 3
        have d4 := hgh5.cell 4
        have d5 := hgh5.cell 5
        have d6 := hgh5.cell 6
        have d7 := hgh5.cell 7
        have d8 := hgh5.cell 8
        have a0 := hbh5.cell 0
        have a1 := hbh5.cell 1
        have a2 := hbh5.cell 2
        have a3 := hbh5.cell 3
        have a4 := hbh5.cell 4
        have a5 := hbh5.cell 5
        have a6 := hbh5.cell 6
        have a7 := hbh5.cell 7
        have a8 := hbh5.cell 8
        simp only [List.getElem?_toArray, List.getElem?_cons_zero, List.getElem?_cons_succ] at a0 a1 a2 a3 a4 a5 a6 a7 a8 d0 d1 d2 d3 d4 d5 d6 d7 d8
        clear hgh5 hbh5
        clear h4 hch5 hown5 hE
        go_wp2_with (fail)
        refine (HRE.out _ (RX.out.keep0 h5.chg)).mono ?_
        rintro e w6 ⟨A6, c6, rfl, hown6, hch6⟩
        have h6 := h5.quiet hch6
        clear zg zb a0 a1 a2 a3 a4 a5 a6 a7 a8 d0 d1 d2 d3 d4 d5 d6 d7 d8
        have hgh6 := h6.get 1 rfl
        have hbh6 := h6.get 3 rfl
        have zg := hgh6.lt
        have zb := hbh6.lt
        have d0 := hgh6.cell 0
        have d1 := hgh6.cell 1
        have d2 := hgh6.cell 2
        have d3 := hgh6.cell 3
        have d4 := hgh6.cell 4
        have d5 := hgh6.cell 5
        have d6 := hgh6.cell 6
        have d7 := hgh6.cell 7
        have d8 := hgh6.cell 8
        have a0 := hbh6.cell 0
        have a1 := hbh6.cell 1
        have a2 := hbh6.cell 2
        have a3 := hbh6.cell 3
        have a4 := hbh6.cell 4
        have a5 := hbh6.cell 5
        have a6 := hbh6.cell 6
        have a7 := hbh6.cell 7
        have a8 := hbh6.cell 8
        simp only [List.getElem?_toArray, List.getElem?_cons_zero, List.getElem?_cons_succ] at a0 a1 a2 a3 a4 a5 a6 a7 a8 d0 d1 d2 d3 d4 d5 d6 d7 d8
        clear hgh6 hbh6
        have r6 := Rd.of_own hown6
        clear h5 hch6 hown6
        go_wp2_with (fail)
        (with_reducible refine (same_to _ _ _ _ _ _ _ E E true (by simp) rfl rfl (Rd.of_own (h6.get 0 rfl)) r6 (by omega)).mono ?_)
        rintro e w7 ⟨rfl, hch7⟩
        have h7 := h6.quiet hch7
        clear zg zb a0 a1 a2 a3 a4 a5 a6 a7 a8 d0 d1 d2 d3 d4 d5 d6 d7 d8
        have hgh7 := h7.get 1 rfl
        have hbh7 := h7.get 3 rfl
        have zg := hgh7.lt
        have zb := hbh7.lt
        have d0 := hgh7.cell 0
        have d1 := hgh7.cell 1
        have d2 := hgh7.cell 2
        have d3 := hgh7.cell 3
        have d4 := hgh7.cell 4
        have d5 := hgh7.cell 5
        have d6 := hgh7.cell 6
        have d7 := hgh7.cell 7
        have d8 := hgh7.cell 8
        have a0 := hbh7.cell 0
        have a1 := hbh7.cell 1
        have a2 := hbh7.cell 2
        have a3 := hbh7.cell 3
        have a4 := hbh7.cell 4
        have a5 := hbh7.cell 5
        have a6 := hbh7.cell 6
        have a7 := hbh7.cell 7
        have a8 := hbh7.cell 8
        simp only [List.getElem?_toArray, List.getElem?_cons_zero, List.getElem?_cons_succ] at a0 a1 a2 a3 a4 a5 a6 a7 a8 d0 d1 d2 d3 d4 d5 d6 d7 d8
        clear hgh7 hbh7
        clear h6 hch7 r6
        go_wp2_with (fail)
        refine (recIs_any _ o q key m c vo A val cp gone ttl).mono ?_
        rw [hs.out]
        rintro e w8 ⟨rfl, hch8⟩
        have h8 := h7.quiet hch8
        clear zg zb a0 a1 a2 a3 a4 a5 a6 a7 a8 d0 d1 d2 d3 d4 d5 d6 d7 d8
        have hgh8 := h8.get 1 rfl
        have hbh8 := h8.get 3 rfl
        have zg := hgh8.lt
        have zb := hbh8.lt
        have d0 := hgh8.cell 0
        have d1 := hgh8.cell 1
        have d2 := hgh8.cell 2
        have d3 := hgh8.cell 3
        have d4 := hgh8.cell 4
        have d5 := hgh8.cell 5
        have d6 := hgh8.cell 6
        have d7 := hgh8.cell 7
        have d8 := hgh8.cell 8
        have a0 := hbh8.cell 0
        have a1 := hbh8.cell 1
        have a2 := hbh8.cell 2
        have a3 := hbh8.cell 3
        have a4 := hbh8.cell 4
        have a5 := hbh8.cell 5
        have a6 := hbh8.cell 6
        have a7 := hbh8.cell 7
        have a8 := hbh8.cell 8
        simp only [List.getElem?_toArray, List.getElem?_cons_zero, List.getElem?_cons_succ] at a0 a1 a2 a3 a4 a5 a6 a7 a8 d0 d1 d2 d3 d4 d5 d6 d7 d8
        clear hgh8 hbh8
        clear h7 hch8
        go_wp2_with (fail)
        (with_reducible refine (same_to _ _ _ _ _ _ _ val val true (by simp) rfl rfl (Rd.of_own (hrv.out _ (h8.get 2 rfl))) (RX.out.keep0 h8.chg) (by omega)).mono ?_)
        rintro e w9 ⟨rfl, hch9⟩
        have h9 := (h8.quiet hch9).front 2 rfl
        clear zg zb a0 a1 a2 a3 a4 a5 a6 a7 a8 d0 d1 d2 d3 d4 d5 d6 d7 d8
        have hgh9 := h9.get 2 rfl
        have hbh9 := h9.get 3 rfl
        have zg := hgh9.lt
        have zb := hbh9.lt
        have d0 := hgh9.cell 0
        have d1 := hgh9.cell 1
        have d2 := hgh9.cell 2
        have d3 := hgh9.cell 3
        have d4 := hgh9.cell 4
        have d5 := hgh9.cell 5
        have d6 := hgh9.cell 6
        have d7 := hgh9.cell 7
        have d8 := hgh9.cell 8
        have a0 := hbh9.cell 0
        have a1 := hbh9.cell 1
        have a2 := hbh9.cell 2
        have a3 := hbh9.cell 3
        have a4 := hbh9.cell 4
        have a5 := hbh9.cell 5
        have a6 := hbh9.cell 6
        have a7 := hbh9.cell 7
        have a8 := hbh9.cell 8
        simp only [List.getElem?_toArray, List.getElem?_cons_zero, List.getElem?_cons_succ] at a0 a1 a2 a3 a4 a5 a6 a7 a8 d0 d1 d2 d3 d4 d5 d6 d7 d8
        clear hgh9 hbh9
        clear h8 hch9
        go_wp2_with (fail)
        (with_reducible refine (spoil_any _ 0 A1 _ c1 (cB val) (hrv.out _ (h9.get 0 rfl)) (by omega) (Nat.zero_le _)).mono ?_)
        rintro e w10 ⟨rfl, hch10⟩
        have h10 := h9.ruin hch10
        clear zg zb a0 a1 a2 a3 a4 a5 a6 a7 a8 d0 d1 d2 d3 d4 d5 d6 d7 d8
        have hb10 := h10.get 2 rfl
        have HD := Lib.hid (recDecode_any w10 A5 _ c5 E rfl (Rd.of_own (h10.get 0 rfl)) (by omega))
        rw [HDc.out] at HD
        clear h9 hch10
        go_wp2_with (fail)
        refine HD.out.mono ?_
        rintro e w11 ⟨x11, rfl, hx11, hown11, hch11⟩
        obtain ⟨r11, A11, c11⟩ := x11
        simp only [Option.getD_some] at hx11
        subst hx11
        simp only [RcV.cells, Option.isSome_some, if_true] at hown11 ⊢
        have h11 := h10.quiet hch11
        have hat := h11.get 2 rfl
        have zb := hat.lt
        have a0 := hat.cell 0
        have a1 := hat.cell 1
        have a2 := hat.cell 2
        have a3 := hat.cell 3
        have a4 := hat.cell 4
        have a5 := hat.cell 5
        have a6 := hat.cell 6
        have a7 := hat.cell 7
        have a8 := hat.cell 8
        simp only [List.getElem?_toArray, List.getElem?_cons_zero, List.getElem?_cons_succ] at a0 a1 a2 a3 a4 a5 a6 a7 a8
        have RX11 := Lib.hid (RX.out.keep0 h11.chg)
        have RY11 := Lib.hid (Rd.of_own hown11)
        have H11 := Lib.hid h11.chg
        clear hat h10 hch11 hb10 HD h11 hown11
        go_wp2_with (fail)
        refine (refSame_to _ o q key m c vo A11 val c11 gone ttl o q key m c vo A val cp gone ttl true (sameR_self _) (RY11.out.alloc _) (RX11.out.alloc _)).mono ?_
        rintro e w12 ⟨rfl, hch12⟩
        go_wp2_with (go_at_call 14; (with_reducible refine (knownR_any _).mono ?_); rintro e w13 ⟨rfl, hch13⟩)
        go_ret
        exact ⟨rfl, (H11.out.alloc _).trans (hch12.trans hch13 (by simp)) (by simp)⟩
  · go_wp2_with (fail)
    go_ret
    exact ⟨rfl, h2.chg⟩
end Go.Proofs.Ytlccjdcmhfhoeaa
