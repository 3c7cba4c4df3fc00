
/-
  The reference's Decode of a record.
-/
import Derived.Test.YtlccjdcmhfhoeaaRecD
import Derived.Test.YtlccjdcmhfhoeaaRef1S
import Derived.Deep.RegionHeldLaw
import Derived.Deep.DeepCutAuto
import Derived.Deep.CutBlock
namespace Go.Proofs.Ytlccjdcmhfhoeaa
open Go.RowKit
set_option linter.unusedVariables false

theorem RrG.k0 {Ty : TypeId} {w0 : World} {B : Nat} {S : List Nat} {w w' : World} {A : Option Addr} {c : Nat} {L : List UInt8} {b : Bool} (h : RrG Ty w0 B S w A c L b) (hc : Chg [] w w') : RrG Ty w' B S w' A c L b := h.stay hc (by simp)
theorem fnum_to (B : Nat) (S : List Nat) (w : World) (A : Option Addr) (c : Nat) (L : List UInt8) (b : Bool) (x : Nat) (L' : List UInt8) (b' : Bool) (ht : takeNum L b = (x, L', b')) (h : RrG 73 w B S w A c L b) (hl : L.length ≤ 1099511627776) :
    Calls Try.prog 43 #[.pointer (some ⟨B, 0, none⟩)] w fun e w' => e = .returned (.int .i64 (x : Int)) ∧ ∃ A' c', RrG 73 w B S w' A' c' L' b' := by
  have h1 := fnum_any B S w w A c L b h hl
  rw [ht] at h1
  exact h1

set_option maxRecDepth 100000 in
set_option maxHeartbeats 6400000 in
theorem refDecR_any (w : World) (A : Option Addr) (n c : Nat) (L : List UInt8) (hn : L.length = n) (hr : Rd w 1 A L.length (cB L)) (hc : L.length ≤ c) (hl : L.length ≤ 1099511627776) :
    Calls Try.prog 23 #[.slice A n c] w (DecRPost w (decR L)) := by
  subst hn
  have HR := Lib.hid hr
  clear hr
  -- what is read, one behind the other
  have HX := Lib.hid (reads_of L)
  obtain ⟨x, hx⟩ : ∃ x, Hid (readR L = x) := ⟨_, rfl⟩
  have HD : Hid (decR L = if x.ok then some x.rc else none) := by unfold Hid; rw [← hx.out]; rfl
  rw [hx.out] at HX
  obtain ⟨L1, L2, L3, L4, L5, L6, L7, b1, b2, b3, b4, b5, b6, b7, t1, t2, t3, t4, t5, t6, t7, t8⟩ := HX.out.all
  obtain ⟨xo, xq, xkey, xm, xc, xg, xt, xval, xrest, xbad⟩ := x
  simp only at t1 t2 t3 t4 t5 t6 t7 t8
  clear HX hx
  have hl1 : L1.length ≤ 1099511627776 := by have := takeNum_len L false; rw [t1] at this; simp only at this; omega
  have hl2 : L2.length ≤ 1099511627776 := by have := takeNum_len L1 b1; rw [t2] at this; simp only at this; omega
  have hl3 : L3.length ≤ 1099511627776 := by have := (takeRow_len L2 b2).1; rw [t3] at this; simp only at this; omega
  have hlk : xkey.length ≤ 1099511627776 := by have := (takeRow_len L2 b2).2; rw [t3] at this; simp only at this; omega
  have hl4 : L4.length ≤ 1099511627776 := by have := takeNum_len L3 b3; rw [t4] at this; simp only at this; omega
  have hl5 : L5.length ≤ 1099511627776 := by have := takeNum_len L4 b4; rw [t5] at this; simp only at this; omega
  have hl6 : L6.length ≤ 1099511627776 := by have := takeNum_len L5 b5; rw [t6] at this; simp only at this; omega
  have hl7 : L7.length ≤ 1099511627776 := by have := takeNum_len L6 b6; rw [t7] at this; simp only at this; omega
  have hlv : xval.length ≤ 1099511627776 := by have := (takeRow_len L7 b7).2; rw [t8] at this; simp only at this; omega
  have T1 := Lib.hid t1
  have T2 := Lib.hid t2
  have T3 := Lib.hid t3
  have T4 := Lib.hid t4
  have T5 := Lib.hid t5
  have T6 := Lib.hid t6
  have T7 := Lib.hid t7
  have T8 := Lib.hid t8
  clear t1 t2 t3 t4 t5 t6 t7 t8
  go_enter Try.func23, Try.ntmps23
  go_wp2_with (fail)
  obtain ⟨S, hS⟩ : ∃ S, Hid ((if L.length = 0 then [] else blk A) = S) := ⟨_, rfl⟩
  have hS' : Hid (∀ k ∈ S, k < w.heap.size) := fun k hk => by
    rw [← hS.out] at hk
    split at hk
    · simp at hk
    · rename_i h0
      obtain ⟨ad, rfl, hb, _⟩ := HR.out.at_ (by omega)
      simp [blk] at hk; omega
  have r0 : RrG 73 ((w.alloc (.cells #[.int .i64 0, .int .i64 0, .string ⟨#[]⟩, .int .i64 0, .int .i64 0, .int .i64 0, .slice none 0 0, .bool false, .int .i64 0] 28)).alloc (.cells #[.slice A L.length c, .bool false] 73)) (w.heap.size + 1) S ((w.alloc (.cells #[.int .i64 0, .int .i64 0, .string ⟨#[]⟩, .int .i64 0, .int .i64 0, .int .i64 0, .slice none 0 0, .bool false, .int .i64 0] 28)).alloc (.cells #[.slice A L.length c, .bool false] 73)) A c L false :=
    ⟨by have h := At.new (w.alloc (.cells #[.int .i64 0, .int .i64 0, .string ⟨#[]⟩, .int .i64 0, .int .i64 0, .int .i64 0, .slice none 0 0, .bool false, .int .i64 0] 28)) 73 #[.slice A L.length c, .bool false]; simpa using h, (HR.out.alloc _).alloc _, hc, Chg.refl _ _, fun h0 k hk => by rw [← hS.out, if_neg (by omega)]; exact hk, fun hm => by have := hS'.out _ hm; omega, by simp⟩
  have a0 := (At.new w 28 #[.int .i64 0, .int .i64 0, .string ⟨#[]⟩, .int .i64 0, .int .i64 0, .int .i64 0, .slice none 0 0, .bool false, .int .i64 0]).al (.cells #[.slice A L.length c, .bool false] 73)
  have hc0 : Chg [] w ((w.alloc (.cells #[.int .i64 0, .int .i64 0, .string ⟨#[]⟩, .int .i64 0, .int .i64 0, .int .i64 0, .slice none 0 0, .bool false, .int .i64 0] 28)).alloc (.cells #[.slice A L.length c, .bool false] 73)) := ((Chg.refl _ _).alloc _).alloc _
  have hB1 : w.heap.size + 1 ∉ S := fun hm => by have := hS'.out _ hm; omega
  have hB1 := Lib.hid hB1
  clear hS
  refine (fnum_any (w.heap.size + 1) S _ _ A c L false r0 hl).mono ?_
  rw [T1.out]
  rintro e w1 ⟨rfl, A1, c1, r1⟩
  simp only at r1 ⊢
  have a1 := a0.keep r1.chg (by simp)
  have hc1 : Chg [] w w1 := hc0.trans r1.chg (by simp)
  clear r0 a0 hc0
  go_wp2_with (fail)
  refine (fnum_any (w.heap.size + 1) S w1 _ A1 c1 L1 b1 r1.here hl1).mono ?_
  rw [T2.out]
  rintro e w2 ⟨rfl, A2, c2, r2⟩
  simp only at r2 ⊢
  have a2 := a1.keep r2.chg (by simp)
  have hc2 : Chg [] w w2 := hc1.trans r2.chg (by simp)
  clear r1 a1 hc1
  go_wp2_with (fail)
  refine (fbytes_any (w.heap.size + 1) S w2 _ A2 c2 L2 b2 r2.here hl2).mono ?_
  rw [T3.out]
  rintro e w3 ⟨A3, c3, rfl, hown3, A3', c3', r3⟩
  simp only at r3 hown3 ⊢
  have a3 := a2.keep r3.chg (by simp)
  have hc3 : Chg [] w w3 := hc2.trans r3.chg (by simp)
  have e7 := run_str (P := Try.prog) w3 24 9 5 Try.underlying24 Try.underlying5 Try.underlying9 A3 xkey.length c3 xkey rfl (Rd.of_own hown3)
  clear r2 a2 hc2 hown3
  go_upto_region 4 with (fail)
  have hlt3 := r3.at_.lt
  have r4 : RrG 73 (w3.alloc (.cells #[.int .i64 (xo : Int), .int .i64 (xq : Int), .string ⟨xkey.toArray⟩, .int .i64 0, .int .i64 0, .int .i64 0, .slice none 0 0, .bool false, .int .i64 0] 28)) (w.heap.size + 1) S (w3.alloc (.cells #[.int .i64 (xo : Int), .int .i64 (xq : Int), .string ⟨xkey.toArray⟩, .int .i64 0, .int .i64 0, .int .i64 0, .slice none 0 0, .bool false, .int .i64 0] 28)) A3' c3' L3 b3 := r3.k0 ((Chg.refl [] w3).alloc _)
  have a4 := a3.al (.cells #[.int .i64 (xo : Int), .int .i64 (xq : Int), .string ⟨xkey.toArray⟩, .int .i64 0, .int .i64 0, .int .i64 0, .slice none 0 0, .bool false, .int .i64 0] 28)
  have g4 := At.new w3 28 #[.int .i64 (xo : Int), .int .i64 (xq : Int), .string ⟨xkey.toArray⟩, .int .i64 0, .int .i64 0, .int .i64 0, .slice none 0 0, .bool false, .int .i64 0]
  have hc4 : Chg [] w (w3.alloc (.cells #[.int .i64 (xo : Int), .int .i64 (xq : Int), .string ⟨xkey.toArray⟩, .int .i64 0, .int .i64 0, .int .i64 0, .slice none 0 0, .bool false, .int .i64 0] 28)) := hc3.alloc _
  clear a3 r3 hc3 e7
  generalize w3.alloc (.cells #[.int .i64 (xo : Int), .int .i64 (xq : Int), .string ⟨xkey.toArray⟩, .int .i64 0, .int .i64 0, .int .i64 0, .slice none 0 0, .bool false, .int .i64 0] 28) = wb at *
  generalize w3.heap.size = g at *
  have y0 := g4.cell 0
  simp only [List.getElem?_toArray, List.getElem?_cons_zero, List.getElem?_cons_succ] at y0
  have hgl := g4.lt
  go_cut [21] (fun s wx => ∃ (A6 : Option Addr) (c6 : Nat), RrG 73 wx (w.heap.size + 1) S wx A6 c6 L5 b5 ∧ At wx g 28 #[.int .i64 (xo : Int), .int .i64 (xq : Int), .string ⟨xkey.toArray⟩, .int .i64 (xm : Int), .int .i64 (xc : Int), .int .i64 (xo : Int), .slice none 0 0, .bool false, .int .i64 0] ∧ At wx w.heap.size 28 #[.int .i64 0, .int .i64 0, .string ⟨#[]⟩, .int .i64 0, .int .i64 0, .int .i64 0, .slice none 0 0, .bool false, .int .i64 0] ∧ Chg [] w wx)
  case first =>
    go_region_held3 (fun w' => w'.cell? ⟨g, 0, none⟩ = some (.int .i64 (xo : Int))) (first | go_keep | (simpa using (At.cell ((((((g6.set_ 3 (.int .i64 (xm : Int))).set_ 4 (.int .i64 (xc : Int))).set_ 5 (.int .i64 (xo : Int))).set_ 6 (.slice none 0 0)).set_ 7 (.bool false)).set_ 8 (.int .i64 0)) 0)) | (simpa using (At.cell (((((((g6.drewN 1).set_ 3 (.int .i64 (xm : Int))).set_ 4 (.int .i64 (xc : Int))).set_ 5 (.int .i64 (xo : Int))).set_ 6 (.slice none 0 0)).set_ 7 (.bool false)).set_ 8 (.int .i64 0)) 0)) | (simpa using (At.cell (((((((g6.drewN 2).set_ 3 (.int .i64 (xm : Int))).set_ 4 (.int .i64 (xc : Int))).set_ 5 (.int .i64 (xo : Int))).set_ 6 (.slice none 0 0)).set_ 7 (.bool false)).set_ 8 (.int .i64 0)) 0)) | fail)
      (first
        | (go_simp; go_at_call 43; (with_reducible refine (fnum_to (w.heap.size + 1) S _ A3' c3' L3 b3 xm L4 b4 T4.out (r4.k0 ?_) hl3).mono ?_); (focus ((repeat' (first | (with_reducible assumption) | (with_reducible exact Chg.refl _ _) | (with_reducible refine Chg.alloc ?_ _) | (with_reducible refine Chg.drewN ?_ _) | (with_reducible refine Chg.drew ?_) | (with_reducible refine Chg.t0 ?_ (by with_reducible assumption)))); done)); rintro e w5 ⟨rfl, A5, c5, r5⟩; have hch5 : Hid (Chg [w.heap.size + 1] wb w5) := (by refine Chg.trans (T := [w.heap.size + 1]) (Chg.mono (S := []) ?_ (by simp)) r5.chg (fun _ h => .inl h); (focus ((repeat' (first | (with_reducible assumption) | (with_reducible exact Chg.refl _ _) | (with_reducible refine Chg.alloc ?_ _) | (with_reducible refine Chg.drewN ?_ _) | (with_reducible refine Chg.drew ?_) | (with_reducible refine Chg.t0 ?_ (by with_reducible assumption)))); done))); have g5 := g4.keep hch5.out (by simp; omega); have d0 := g5.cell 0; simp only [List.getElem?_toArray, List.getElem?_cons_zero, List.getElem?_cons_succ] at d0)
        | (go_simp; go_at_call 43; (with_reducible refine (fnum_to (w.heap.size + 1) S _ A5 c5 L4 b4 xc L5 b5 T5.out (r5.k0 ?_) hl4).mono ?_); (focus ((repeat' (first | (with_reducible assumption) | (with_reducible exact Chg.refl _ _) | (with_reducible refine Chg.alloc ?_ _) | (with_reducible refine Chg.drewN ?_ _) | (with_reducible refine Chg.drew ?_) | (with_reducible refine Chg.t0 ?_ (by with_reducible assumption)))); done)); rintro e w6 ⟨rfl, A6, c6, r6⟩; have hch6 : Hid (Chg [w.heap.size + 1] wb w6) := (by refine hch5.out.trans (T := [w.heap.size + 1]) (Chg.trans (T := [w.heap.size + 1]) (Chg.mono (S := []) ?_ (by simp)) r6.chg (fun _ h => .inl h)) (fun _ h => .inl h); (focus ((repeat' (first | (with_reducible assumption) | (with_reducible exact Chg.refl _ _) | (with_reducible refine Chg.alloc ?_ _) | (with_reducible refine Chg.drewN ?_ _) | (with_reducible refine Chg.drew ?_) | (with_reducible refine Chg.t0 ?_ (by with_reducible assumption)))); done))); have g6 := g4.keep hch6.out (by simp; omega); have k0 := g6.cell 0; have k3 := g6.cell 3; have k4 := g6.cell 4; have k5 := g6.cell 5; have k6 := g6.cell 6; have k7 := g6.cell 7; have k8 := g6.cell 8; have f3 := g6.free 3; have f4 := g6.free 4; have f5 := g6.free 5; have f6 := g6.free 6; have f7 := g6.free 7; have f8 := g6.free 8; simp only [List.getElem?_toArray, List.getElem?_cons_zero, List.getElem?_cons_succ] at k0 k3 k4 k5 k6 k7 k8))
    all_goals
      go_wp2_with (fail)
      go_meet
      have hk : At ((((((w6.setCell ⟨g, 3, none⟩ (.int .i64 (xm : Int))).setCell ⟨g, 4, none⟩ (.int .i64 (xc : Int))).setCell ⟨g, 5, none⟩ (.int .i64 (xo : Int))).setCell ⟨g, 6, none⟩ (.slice none 0 0)).setCell ⟨g, 7, none⟩ (.bool false)).setCell ⟨g, 8, none⟩ (.int .i64 0)) g 28 #[.int .i64 (xo : Int), .int .i64 (xq : Int), .string ⟨xkey.toArray⟩, .int .i64 (xm : Int), .int .i64 (xc : Int), .int .i64 (xo : Int), .slice none 0 0, .bool false, .int .i64 0] := by simpa using ((((((g6.set_ 3 (.int .i64 (xm : Int))).set_ 4 (.int .i64 (xc : Int))).set_ 5 (.int .i64 (xo : Int))).set_ 6 (.slice none 0 0)).set_ 7 (.bool false)).set_ 8 (.int .i64 0))
      have hq : Chg [g] w6 _ := (((((((Chg.refl [g] w6).setCell (p := ⟨g, 3, none⟩) (.inl (by simp)) (.int .i64 (xm : Int))).setCell (p := ⟨g, 4, none⟩) (.inl (by simp)) (.int .i64 (xc : Int))).setCell (p := ⟨g, 5, none⟩) (.inl (by simp)) (.int .i64 (xo : Int))).setCell (p := ⟨g, 6, none⟩) (.inl (by simp)) (.slice none 0 0)).setCell (p := ⟨g, 7, none⟩) (.inl (by simp)) (.bool false)).setCell (p := ⟨g, 8, none⟩) (.inl (by simp)) (.int .i64 0))
      have hr := r6.stay hq (by intro k hk; obtain rfl := List.mem_singleton.1 hk; exact ⟨by omega, fun hm => by have := hS'.out _ hm; omega⟩)
      have ha := (a4.keep hch6.out (by simp)).keep hq (by simp; omega)
      have hcx : Chg [] w _ := (hc4.trans hch6.out (by simp)).trans hq (by simp; omega)
      first
        | exact ⟨A6, c6, hr, hk, ha, hcx⟩
        | exact ⟨A6, c6, hr.k0 ((Chg.refl [] _).drewN 1), hk.drewN 1, ha.drewN 1, hcx.drewN 1⟩
        | exact ⟨A6, c6, hr.k0 ((Chg.refl [] _).drewN 2), hk.drewN 2, ha.drewN 2, hcx.drewN 2⟩
        | trace_state
  case rest =>
    obtain ⟨A6, c6, r6, g6, a6, hc6⟩ := hcut
    clear r4 a4 g4 hc4 y0 hgl
    go_wp2_with (fail)
    refine (fnum_any (w.heap.size + 1) S wc _ A6 c6 L5 b5 r6 hl5).mono ?_
    rw [T6.out]
    rintro e w7 ⟨rfl, A7, c7, r7⟩
    simp only at r7 ⊢
    have g7 := g6.keep r7.chg (by simp; omega)
    have a7 := a6.keep r7.chg (by simp)
    have hc7 : Chg [] w w7 := hc6.trans r7.chg (by simp)
    have hxg : ((xg : Int) == 1) = (xg == 1) := by
      by_cases h : xg = 1
      · rw [h]; rfl
      · rw [beq_eq_false_iff_ne.2 h, beq_eq_false_iff_ne.2 (by omega)]
    have Hxg := Lib.hid hxg
    have k7 := g7.cell 7
    have f7 := g7.free 7
    simp only [List.getElem?_toArray, List.getElem?_cons_zero, List.getElem?_cons_succ] at k7
    clear r6 g6 a6 hc6 hxg
    go_wp2_with (fail)
    rw [Hxg.out]
    have q8 : Chg [g] w7 (w7.setCell ⟨g, 7, none⟩ (.bool (xg == 1))) := (Chg.refl [g] w7).setCell (.inl (by simp)) _
    have g8 : At (w7.setCell ⟨g, 7, none⟩ (.bool (xg == 1))) g 28 #[.int .i64 (xo : Int), .int .i64 (xq : Int), .string ⟨xkey.toArray⟩, .int .i64 (xm : Int), .int .i64 (xc : Int), .int .i64 (xo : Int), .slice none 0 0, .bool (xg == 1), .int .i64 0] := by simpa using g7.set_ 7 (.bool (xg == 1))
    have hgn : Hid (∀ k ∈ [g], k ≠ w.heap.size + 1 ∧ k ∉ S) := by intro k hk; obtain rfl := List.mem_singleton.1 hk; exact ⟨by omega, fun hm => by have := hS'.out _ hm; omega⟩
    have r8 := r7.stay q8 hgn.out
    have a8 := a7.keep q8 (by simp; omega)
    have hc8 : Chg [] w _ := hc7.trans q8 (by simp; omega)
    clear q8 g7 r7 a7 hc7 k7 f7 Hxg
    generalize w7.setCell ⟨g, 7, none⟩ (.bool (xg == 1)) = w8 at *
    refine (fnum_any (w.heap.size + 1) S w8 _ A7 c7 L6 b6 r8 hl6).mono ?_
    rw [T7.out]
    rintro e w9 ⟨rfl, A9, c9, r9⟩
    simp only at r9 ⊢
    have g9 := g8.keep r9.chg (by simp; omega)
    have a9 := a8.keep r9.chg (by simp)
    have hc9 : Chg [] w w9 := hc8.trans r9.chg (by simp)
    have k8 := g9.cell 8
    have f8 := g9.free 8
    simp only [List.getElem?_toArray, List.getElem?_cons_zero, List.getElem?_cons_succ] at k8
    clear r8 g8 a8 hc8
    go_wp2_with (fail)
    have q10 : Chg [g] w9 (w9.setCell ⟨g, 8, none⟩ (.int .i64 (xt : Int))) := (Chg.refl [g] w9).setCell (.inl (by simp)) _
    have g10 : At (w9.setCell ⟨g, 8, none⟩ (.int .i64 (xt : Int))) g 28 #[.int .i64 (xo : Int), .int .i64 (xq : Int), .string ⟨xkey.toArray⟩, .int .i64 (xm : Int), .int .i64 (xc : Int), .int .i64 (xo : Int), .slice none 0 0, .bool (xg == 1), .int .i64 (xt : Int)] := by simpa using g9.set_ 8 (.int .i64 (xt : Int))
    have r10 := r9.stay q10 hgn.out
    have a10 := a9.keep q10 (by simp; omega)
    have hc10 : Chg [] w _ := hc9.trans q10 (by simp; omega)
    clear q10 g9 r9 a9 hc9 k8 f8
    generalize w9.setCell ⟨g, 8, none⟩ (.int .i64 (xt : Int)) = w10 at *
    refine (fbytes_any (w.heap.size + 1) S w10 _ A9 c9 L7 b7 r10 hl7).mono ?_
    rw [T8.out]
    rintro e w10b ⟨A10, c10, rfl, hown10, A11, c11, r11b⟩
    simp only at r11b hown10 ⊢
    have g11 := g10.keep r11b.chg (by simp; omega)
    have a11 := a10.keep r11b.chg (by simp)
    have hc11b : Chg [] w w10b := hc10.trans r11b.chg (by simp)
    have hgl10 := g10.lt
    have own10 : w10b.ownsRow (g + 1) 5 1 (.slice A10 xval.length c10) xval.length (cB xval) := own_up hown10 (by omega)
    have k6 := g11.cell 6
    have f6 := g11.free 6
    simp only [List.getElem?_toArray, List.getElem?_cons_zero, List.getElem?_cons_succ] at k6
    clear r10 g10 a10 hc10 hown10
    go_wp2_with (fail)
    have q11 : Chg [g] w10b (w10b.setCell ⟨g, 6, none⟩ (.slice A10 xval.length c10)) := (Chg.refl [g] w10b).setCell (.inl (by simp)) _
    have a1 : At (w10b.setCell ⟨g, 6, none⟩ (.slice A10 xval.length c10)) g 28 #[.int .i64 (xo : Int), .int .i64 (xq : Int), .string ⟨xkey.toArray⟩, .int .i64 (xm : Int), .int .i64 (xc : Int), .int .i64 (xo : Int), .slice A10 xval.length c10, .bool (xg == 1), .int .i64 (xt : Int)] := by simpa using g11.set_ 6 (.slice A10 xval.length c10)
    have r11 := r11b.stay q11 hgn.out
    have a0 := a11.keep q11 (by simp; omega)
    have own11 : (w10b.setCell ⟨g, 6, none⟩ (.slice A10 xval.length c10)).ownsRow (g + 1) 5 1 (.slice A10 xval.length c10) xval.length (cB xval) := own_keep own10 q11 (fun k hk hm => by have := (own10.lt k hk).1; simp at hm; omega)
    have hc11 : Chg [] w _ := hc11b.trans q11 (by simp; omega)
    clear q11 g11 r11b a11 hc11b own10 k6 f6
    generalize w10b.setCell ⟨g, 6, none⟩ (.slice A10 xval.length c10) = w11 at *
    have own11 := own_up own11 (show w.heap.size + 1 ≤ g + 1 by omega)
    refine (fwhole_any (w.heap.size + 1) S w11 _ A11 c11 xrest xbad r11).mono ?_
    rintro e w' ⟨rfl, rfl⟩
    obtain ⟨wh, hwh⟩ : ∃ wh, Hid ((!xbad && decide (xrest = [])) = wh) := ⟨_, rfl⟩
    rw [hwh.out]
    have hok : Hid ((⟨xo, xq, xkey, xm, xc, xg, xt, xval, xrest, xbad⟩ : Red).ok = (wh && decide (xg ≤ 1) && isR ⟨xo, xq, xkey, xm, xc, xo, xval, xg == 1, xt⟩)) := by
      unfold Hid; rw [← hwh.out]; rfl
    have y0 := a0.cell 0
    have e0 := a0.cell 1
    have e1 := a0.cell 2
    have e2 := a0.cell 3
    have e3 := a0.cell 4
    have e4 := a0.cell 5
    have e5 := a0.cell 6
    have e6 := a0.cell 7
    have e7 := a0.cell 8
    have f0 := a0.free 0
    have f1 := a0.free 1
    have f2 := a0.free 2
    have f3 := a0.free 3
    have f4 := a0.free 4
    have f5 := a0.free 5
    have f6 := a0.free 6
    have f7 := a0.free 7
    have f8 := a0.free 8
    simp only [List.getElem?_toArray, List.getElem?_cons_zero, List.getElem?_cons_succ] at y0 e0 e1 e2 e3 e4 e5 e6 e7
    clear hwh
    cases wh
    · have hno : (⟨xo, xq, xkey, xm, xc, xg, xt, xval, xrest, xbad⟩ : Red).ok = false := by rw [hok.out]; simp
      have HNo := Lib.hid hno
      clear hno
      go_wp2_with (fail)
      refine ret_rec2 (g := w.heap.size) (T := 28) rfl Try.results23 rfl rfl (At.set9 a0 (.int .i64 0) (.int .i64 0) (.string ⟨#[]⟩) (.int .i64 0) (.int .i64 0) (.int .i64 0) (.slice none 0 0) (.bool false) (.int .i64 0)) ?_
      have HN := HD.out
      rw [HNo.out] at HN
      rw [HN]
      exact ⟨⟨Rc.z, none, 0⟩, rfl, rfl, own_none _ _ _ _, Chg.set9 hc11 (.inr (Nat.le_refl _)) (.int .i64 0) (.int .i64 0) (.string ⟨#[]⟩) (.int .i64 0) (.int .i64 0) (.int .i64 0) (.slice none 0 0) (.bool false) (.int .i64 0)⟩
    · by_cases hg : 1 < xg
      · have hno : (⟨xo, xq, xkey, xm, xc, xg, xt, xval, xrest, xbad⟩ : Red).ok = false := by rw [hok.out, decide_eq_false (by omega)]; simp
        have HNo := Lib.hid hno
        clear hno
        go_wp2_with (fail)
        refine ret_rec2 (g := w.heap.size) (T := 28) rfl Try.results23 rfl rfl (At.set9 a0 (.int .i64 0) (.int .i64 0) (.string ⟨#[]⟩) (.int .i64 0) (.int .i64 0) (.int .i64 0) (.slice none 0 0) (.bool false) (.int .i64 0)) ?_
        have HN := HD.out
        rw [HNo.out] at HN
        rw [HN]
        exact ⟨⟨Rc.z, none, 0⟩, rfl, rfl, own_none _ _ _ _, Chg.set9 hc11 (.inr (Nat.le_refl _)) (.int .i64 0) (.int .i64 0) (.string ⟨#[]⟩) (.int .i64 0) (.int .i64 0) (.int .i64 0) (.slice none 0 0) (.bool false) (.int .i64 0)⟩
      · have b0 := a1.cell 0
        have b1' := a1.cell 1
        have b2' := a1.cell 2
        have b3' := a1.cell 3
        have b4' := a1.cell 4
        have b5' := a1.cell 5
        have b6' := a1.cell 6
        have b7' := a1.cell 7
        have b8' := a1.cell 8
        simp only [List.getElem?_toArray, List.getElem?_cons_zero, List.getElem?_cons_succ] at b0 b1' b2' b3' b4' b5' b6' b7' b8'
        go_wp2_with (fail)
        refine (refIsR_any _ xo xq xkey xm xc xo A10 xval c10 (xg == 1) xt).mono ?_
        rintro e w12 ⟨rfl, hch12⟩
        have k0 := a0.keep hch12 (by simp)
        have k1 := a1.keep hch12 (by simp)
        have own12 := own_k0 own11 hch12
        have hc12 := hc11.trans hch12 (by simp)
        clear y0 e0 e1 e2 e3 e4 e5 e6 e7 f0 f1 f2 f3 f4 f5 f6 f7 f8 b0 b1' b2' b3' b4' b5' b6' b7' b8' a0 a1 r11 own11 hc11 hch12
        have y0 := k0.cell 0
        have e0 := k0.cell 1
        have e1 := k0.cell 2
        have e2 := k0.cell 3
        have e3 := k0.cell 4
        have e4 := k0.cell 5
        have e5 := k0.cell 6
        have e6 := k0.cell 7
        have e7 := k0.cell 8
        have f0 := k0.free 0
        have f1 := k0.free 1
        have f2 := k0.free 2
        have f3 := k0.free 3
        have f4 := k0.free 4
        have f5 := k0.free 5
        have f6 := k0.free 6
        have f7 := k0.free 7
        have f8 := k0.free 8
        have b0 := k1.cell 0
        have b1' := k1.cell 1
        have b2' := k1.cell 2
        have b3' := k1.cell 3
        have b4' := k1.cell 4
        have b5' := k1.cell 5
        have b6' := k1.cell 6
        have b7' := k1.cell 7
        have b8' := k1.cell 8
        simp only [List.getElem?_toArray, List.getElem?_cons_zero, List.getElem?_cons_succ] at y0 e0 e1 e2 e3 e4 e5 e6 e7 b0 b1' b2' b3' b4' b5' b6' b7' b8'
        obtain ⟨p, hp⟩ : ∃ p, Hid (isR ⟨xo, xq, xkey, xm, xc, xo, xval, xg == 1, xt⟩ = p) := ⟨_, rfl⟩
        rw [hp.out] at hok ⊢
        cases p
        · have HNo : Hid ((⟨xo, xq, xkey, xm, xc, xg, xt, xval, xrest, xbad⟩ : Red).ok = false) := by unfold Hid; rw [hok.out]; simp
          go_wp2_with (fail)
          refine ret_rec2 (g := w.heap.size) (T := 28) rfl Try.results23 rfl rfl (At.set9 k0 (.int .i64 0) (.int .i64 0) (.string ⟨#[]⟩) (.int .i64 0) (.int .i64 0) (.int .i64 0) (.slice none 0 0) (.bool false) (.int .i64 0)) ?_
          have HN := HD.out
          rw [HNo.out] at HN
          rw [HN]
          exact ⟨⟨Rc.z, none, 0⟩, rfl, rfl, own_none _ _ _ _, Chg.set9 hc12 (.inr (Nat.le_refl _)) (.int .i64 0) (.int .i64 0) (.string ⟨#[]⟩) (.int .i64 0) (.int .i64 0) (.int .i64 0) (.slice none 0 0) (.bool false) (.int .i64 0)⟩
        · have HYes : Hid ((⟨xo, xq, xkey, xm, xc, xg, xt, xval, xrest, xbad⟩ : Red).ok = true) := by unfold Hid; rw [hok.out, decide_eq_true (by omega)]; simp
          go_wp2_with (fail)
          refine ret_rec2 (g := w.heap.size) (T := 28) rfl Try.results23 rfl rfl (At.set9 k0 (.int .i64 (xo : Int)) (.int .i64 (xq : Int)) (.string ⟨xkey.toArray⟩) (.int .i64 (xm : Int)) (.int .i64 (xc : Int)) (.int .i64 (xo : Int)) (.slice A10 xval.length c10) (.bool (xg == 1)) (.int .i64 (xt : Int))) ?_
          have HN := HD.out
          rw [HYes.out] at HN
          rw [HN]
          refine ⟨⟨⟨xo, xq, xkey, xm, xc, xo, xval, xg == 1, xt⟩, A10, c10⟩, rfl, rfl, ?_, Chg.set9 hc12 (.inr (Nat.le_refl _)) (.int .i64 (xo : Int)) (.int .i64 (xq : Int)) (.string ⟨xkey.toArray⟩) (.int .i64 (xm : Int)) (.int .i64 (xc : Int)) (.int .i64 (xo : Int)) (.slice A10 xval.length c10) (.bool (xg == 1)) (.int .i64 (xt : Int))⟩
          refine own_up (base := w.heap.size + 1) (own_keep own12 (Chg.set9 (Chg.refl [w.heap.size] _) (.inl (by simp)) (.int .i64 (xo : Int)) (.int .i64 (xq : Int)) (.string ⟨xkey.toArray⟩) (.int .i64 (xm : Int)) (.int .i64 (xc : Int)) (.int .i64 (xo : Int)) (.slice A10 xval.length c10) (.bool (xg == 1)) (.int .i64 (xt : Int))) (fun k hk hm => ?_)) (by omega)
          have := (own12.lt k hk).1
          simp at hm
          omega
end Go.Proofs.Ytlccjdcmhfhoeaa
