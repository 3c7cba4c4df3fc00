
/-
  RecDecodes: the walk of the law.
-/
import Derived.Test.YtlccjdcmhfhoeaaRecCuts
import Derived.Test.YtlccjdcmhfhoeaaRecD2
namespace Go.Proofs.Ytlccjdcmhfhoeaa
open Go.RowKit Go.ChangeShapes
set_option linter.unusedVariables false

theorem decR_val {L : List UInt8} : ((decR L).getD Rc.z).val.length ≤ L.length := by
  cases h : decR L with
  | none => simp [Rc.z]
  | some r =>
    obtain ⟨_, h2⟩ := decR_some h
    rw [h2, encR_eq]
    simp only [List.length_append, Option.getD_some]; omega

set_option maxRecDepth 100000 in
set_option maxHeartbeats 6400000 in
theorem recDecodes_law (w : World) (x : SlB) (hx : RdB w x ∧ x.bs.length ≤ x.c ∧ x.c ≤ maxLen ∧ x.bs.length ≤ 140737488351232) :
    Calls Try.prog 6 #[.slice x.A x.bs.length x.c] w fun e w' => e = .returned (.bool true) ∧ Chg [] w w' := by
  obtain ⟨i0, hi, hz0, hz1, hz2⟩ := info_parts info8
  obtain ⟨A, c, L⟩ := x
  obtain ⟨rx, hxc, _, hxl⟩ := hx
  simp only [RdB] at rx hxc hxl ⊢
  have RX := Lib.hid rx
  clear rx
  by_cases hlen : 6000 < L.length
  · go_enter Try.func6, Try.ntmps6
    go_wp2_with (fail)
    go_ret
    exact ⟨rfl, Chg.refl _ _⟩
  have hL : L.length ≤ 6000 := by omega
  clear hlen
  go_enter Try.func6, Try.ntmps6
  go_wp2_with (fail)
  (with_reducible refine (roomy_any _ A _ c L rfl RX.out (by omega)).mono ?_)
  rintro e w1 ⟨A1, c1, rfl, hown1, hch1⟩
  have h1 := (All.start w).row hch1 hown1
  have hcap1 := own_cap hown1
  have hrm : Hid (∀ w' : World, w'.ownsRow 0 5 1 (.slice A1 (L.length + 1) c1) (L.length + 1) (cB (L ++ [171])) → Rd w' 1 A1 L.length (cB L)) := fun w' ho => by
    have h := (Rd.of_own ho).take (k := L.length) (by omega)
    have e : (cB (L ++ [171])).take (L.length * 1) = cB L := by
      rw [cB_app, List.take_append_of_le_length (by simp [cB_len]), List.take_of_length_le (by simp [cB_len])]
    rw [e] at h
    exact h
  have sL := fun w => run_slice_hi (P := Try.prog) w Try.underlying24 hi A1 (L.length + 1) c1 (L.length : Int) L.length rfl (by omega)
  have hvl := decR_val (L := L)
  obtain ⟨z, hzz⟩ : ∃ z : Int, Hid ((if (decR L).isSome then (0 : Int) else 3) = z) := ⟨_, rfl⟩
  obtain ⟨r, hr⟩ : ∃ r, Hid ((decR L).getD Rc.z = r) := ⟨_, rfl⟩
  have hD : Hid (∀ w (A : Option Addr) (c : Nat), Rd w 1 A L.length (cB L) → Calls Try.prog 22 #[.slice A L.length c] w fun e w' => ∃ x : RcV, e = .returned (.tuple #[.agg x.cells.toArray, .int .i64 z]) ∧ x.r = r ∧ w'.ownsRow w.heap.size 5 1 (.slice x.A x.r.val.length x.cp) x.r.val.length (cB x.r.val) ∧ Chg [] w w') := fun w A c hrd => by
    have h := recDecode_any w A _ c L rfl hrd (by omega)
    unfold DecRPost at h
    rw [hr.out, hzz.out] at h; exact h
  have hDr : Hid (∀ w (A : Option Addr) (c : Nat), Rd w 1 A L.length (cB L) → L.length ≤ c → Calls Try.prog 23 #[.slice A L.length c] w fun e w' => ∃ x : RcV, e = .returned (.tuple #[.agg x.cells.toArray, .int .i64 z]) ∧ x.r = r ∧ w'.ownsRow w.heap.size 5 1 (.slice x.A x.r.val.length x.cp) x.r.val.length (cB x.r.val) ∧ Chg [] w w') := fun w A c hrd hc => by
    have h := refDecR_any w A _ c L rfl hrd hc (by omega)
    unfold DecRPost at h
    rw [hr.out, hzz.out] at h; exact h
  rw [hr.out] at hvl
  clear hr hzz
  obtain ⟨o, q, key, m, c', vo, val, gone, ttl⟩ := r
  simp only at hvl
  go_wp2_with (fail)
  refine (hD.out _ A1 c1 (hrm.out _ (h1.get 0 rfl))).mono ?_
  rintro e w2 ⟨⟨r2, A2, cp2⟩, rfl, hr2, hown2, hch2⟩
  simp only at hr2
  subst hr2
  simp only [RcV.cells] at hown2 ⊢
  have h2 := (h1.row hch2 hown2).newAt 28 #[.int .i64 o, .int .i64 q, .string ⟨key.toArray⟩, .int .i64 m, .int .i64 c', .int .i64 vo, .slice A2 val.length cp2, .bool gone, .int .i64 ttl] (g := w2.heap.size) rfl
  clear h1 hown1 hch1 hown2 hch2
  go_wp2_with (fail)
  refine (hDr.out _ A c (RX.out.keep0 h2.chg) (by omega)).mono ?_
  rintro e w3 ⟨⟨r3, A3, cp3⟩, rfl, hr3, hown3, hch3⟩
  simp only at hr3
  subst hr3
  simp only [RcV.cells] at hown3 ⊢
  have h3 := (h2.row hch3 hown3).newAt 28 #[.int .i64 o, .int .i64 q, .string ⟨key.toArray⟩, .int .i64 m, .int .i64 c', .int .i64 vo, .slice A3 val.length cp3, .bool gone, .int .i64 ttl] (g := w3.heap.size) rfl
  -- y's cells, y's value, x's cells, x's value, the roomy row
  have h4 : All w (w3.alloc (.cells #[.int .i64 o, .int .i64 q, .string ⟨key.toArray⟩, .int .i64 m, .int .i64 c', .int .i64 vo, .slice A3 val.length cp3, .bool gone, .int .i64 ttl] 28)) _ := h3
  have hxh4 := h4.get 2 rfl
  have hyh4 := h4.get 0 rfl
  have zx := hxh4.lt
  have zy := hyh4.lt
  have a0 := hxh4.cell 0
  have a1 := hxh4.cell 1
  have a2 := hxh4.cell 2
  have a3 := hxh4.cell 3
  have a4 := hxh4.cell 4
  have a5 := hxh4.cell 5
  have a6 := hxh4.cell 6
  have a7 := hxh4.cell 7
  have a8 := hxh4.cell 8
  have d0 := hyh4.cell 0
  have d1 := hyh4.cell 1
  have d2 := hyh4.cell 2
  have d3 := hyh4.cell 3
  have d4 := hyh4.cell 4
  have d5 := hyh4.cell 5
  have d6 := hyh4.cell 6
  have d7 := hyh4.cell 7
  have d8 := hyh4.cell 8
  simp only [List.getElem?_toArray, List.getElem?_cons_zero, List.getElem?_cons_succ] at a0 a1 a2 a3 a4 a5 a6 a7 a8 d0 d1 d2 d3 d4 d5 d6 d7 d8
  clear hxh4 hyh4
  clear h2 h3 hown3 hch3
  go_wp2_with (fail)
  refine (refSame_to _ o q key m c' vo A2 val cp2 gone ttl o q key m c' vo A3 val cp3 gone ttl true (sameR_self _) (Rd.of_own (h4.get 3 rfl)) (Rd.of_own (h4.get 1 rfl))).mono ?_
  rintro e w5 ⟨rfl, hch5⟩
  have h5 := h4.quiet hch5
  clear zx zy a0 a1 a2 a3 a4 a5 a6 a7 a8 d0 d1 d2 d3 d4 d5 d6 d7 d8
  have hxh5 := h5.get 2 rfl
  have hyh5 := h5.get 0 rfl
  have zx := hxh5.lt
  have zy := hyh5.lt
  have a0 := hxh5.cell 0
  have a1 := hxh5.cell 1
  have a2 := hxh5.cell 2
  have a3 := hxh5.cell 3
  have a4 := hxh5.cell 4
  have a5 := hxh5.cell 5
  have a6 := hxh5.cell 6
  have a7 := hxh5.cell 7
  have a8 := hxh5.cell 8
  have d0 := hyh5.cell 0
  have d1 := hyh5.cell 1
  have d2 := hyh5.cell 2
  have d3 := hyh5.cell 3
  have d4 := hyh5.cell 4
  have d5 := hyh5.cell 5
  have d6 := hyh5.cell 6
  have d7 := hyh5.cell 7
  have d8 := hyh5.cell 8
  simp only [List.getElem?_toArray, List.getElem?_cons_zero, List.getElem?_cons_succ] at a0 a1 a2 a3 a4 a5 a6 a7 a8 d0 d1 d2 d3 d4 d5 d6 d7 d8
  clear hxh5 hyh5
  have hzb : (z == z) = true := by simp
  clear h4 hch5
  go_wp2_with (fail)
  (with_reducible refine (stands_any _ A1 A _ _ c1 c L rfl rfl (Rd.of_own (h5.get 4 rfl)) (RX.out.keep0 h5.chg) (by omega) (by omega)).mono ?_)
  rintro e w6 ⟨rfl, hch6⟩
  have h6 := (h5.quiet hch6).front 4 rfl
  clear zx zy a0 a1 a2 a3 a4 a5 a6 a7 a8 d0 d1 d2 d3 d4 d5 d6 d7 d8
  have hxh6 := h6.get 3 rfl
  have hyh6 := h6.get 1 rfl
  have zx := hxh6.lt
  have zy := hyh6.lt
  have a0 := hxh6.cell 0
  have a1 := hxh6.cell 1
  have a2 := hxh6.cell 2
  have a3 := hxh6.cell 3
  have a4 := hxh6.cell 4
  have a5 := hxh6.cell 5
  have a6 := hxh6.cell 6
  have a7 := hxh6.cell 7
  have a8 := hxh6.cell 8
  have d0 := hyh6.cell 0
  have d1 := hyh6.cell 1
  have d2 := hyh6.cell 2
  have d3 := hyh6.cell 3
  have d4 := hyh6.cell 4
  have d5 := hyh6.cell 5
  have d6 := hyh6.cell 6
  have d7 := hyh6.cell 7
  have d8 := hyh6.cell 8
  simp only [List.getElem?_toArray, List.getElem?_cons_zero, List.getElem?_cons_succ] at a0 a1 a2 a3 a4 a5 a6 a7 a8 d0 d1 d2 d3 d4 d5 d6 d7 d8
  clear hxh6 hyh6
  clear h5 hch6 hzb
  go_wp2_with (fail)
  (with_reducible refine (spoil_any _ 0 A1 _ c1 (cB (L ++ [171])) (h6.get 0 rfl) (by omega) (Nat.zero_le _)).mono ?_)
  rintro e w7 ⟨rfl, hch7⟩
  have h7 := h6.ruin hch7
  clear zx zy a0 a1 a2 a3 a4 a5 a6 a7 a8 d0 d1 d2 d3 d4 d5 d6 d7 d8
  have hxh7 := h7.get 2 rfl
  have hyh7 := h7.get 0 rfl
  have zx := hxh7.lt
  have zy := hyh7.lt
  have a0 := hxh7.cell 0
  have a1 := hxh7.cell 1
  have a2 := hxh7.cell 2
  have a3 := hxh7.cell 3
  have a4 := hxh7.cell 4
  have a5 := hxh7.cell 5
  have a6 := hxh7.cell 6
  have a7 := hxh7.cell 7
  have a8 := hxh7.cell 8
  have d0 := hyh7.cell 0
  have d1 := hyh7.cell 1
  have d2 := hyh7.cell 2
  have d3 := hyh7.cell 3
  have d4 := hyh7.cell 4
  have d5 := hyh7.cell 5
  have d6 := hyh7.cell 6
  have d7 := hyh7.cell 7
  have d8 := hyh7.cell 8
  simp only [List.getElem?_toArray, List.getElem?_cons_zero, List.getElem?_cons_succ] at a0 a1 a2 a3 a4 a5 a6 a7 a8 d0 d1 d2 d3 d4 d5 d6 d7 d8
  clear hxh7 hyh7
  clear h6 hch7
  go_wp2_with (fail)
  refine (refSame_to _ o q key m c' vo A2 val cp2 gone ttl o q key m c' vo A3 val cp3 gone ttl true (sameR_self _) (Rd.of_own (h7.get 3 rfl)) (Rd.of_own (h7.get 1 rfl))).mono ?_
  rintro e w8 ⟨rfl, hch8⟩
  go_wp2_with (go_at_call 14; (with_reducible refine (knownR_any _).mono ?_); rintro e w9 ⟨rfl, hch9⟩)
  go_ret
  exact ⟨rfl, h7.chg.trans (hch8.trans hch9 (by simp)) (by simp)⟩
end Go.Proofs.Ytlccjdcmhfhoeaa
