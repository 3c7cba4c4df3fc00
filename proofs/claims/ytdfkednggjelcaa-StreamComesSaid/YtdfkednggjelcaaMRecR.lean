
/-
  Several texts in one: RecD2, RecRd, RecRd2.
-/
import Derived.Test.YtdfkednggjelcaaRecD
import Derived.Test.YtdfkednggjelcaaMRef
import Derived.Deep.RegionHeldLaw
import Derived.Deep.DeepCutAuto
import Derived.Deep.CutBlock
import Derived.Test.YtdfkednggjelcaaRecLi
namespace Go.Proofs.Ytdfkednggjelcaa
open Go.RowKit
set_option linter.unusedVariables false

theorem RrG.k0 {Ty : TypeId} {w0 : World} {B : Nat} {S : List Nat} {w w' : World} {A : Option Addr} {c : Nat} {L : List UInt8} {b : Bool} (h : RrG Ty w0 B S w A c L b) (hc : Chg [] w w') : RrG Ty w' B S w' A c L b := h.stay hc (by simp)
theorem fnum_to (B : Nat) (S : List Nat) (w : World) (A : Option Addr) (c : Nat) (L : List UInt8) (b : Bool) (x : Nat) (L' : List UInt8) (b' : Bool) (ht : takeNum L b = (x, L', b')) (h : RrG 100 w B S w A c L b) (hl : L.length ≤ 1099511627776) :
    Calls Try.prog 46 #[.pointer (some ⟨B, 0, none⟩)] w fun e w' => e = .returned (.int .i64 (x : Int)) ∧ ∃ A' c', RrG 100 w B S w' A' c' L' b' := by
  have h1 := fnum_any B S w w A c L b h hl
  rw [ht] at h1
  exact h1

set_option maxRecDepth 100000 in
set_option maxHeartbeats 6400000 in
theorem refDecR_any (w : World) (A : Option Addr) (n c : Nat) (L : List UInt8) (hn : L.length = n) (hr : Rd w 1 A L.length (cB L)) (hc : L.length ≤ c) (hl : L.length ≤ 1099511627776) :
    Calls Try.prog 67 #[.slice A n c] w (DecRPost w (decR L)) := by
  subst hn
  have HR := Lib.hid hr
  clear hr
  -- what is read, one behind the other
  have HX := Lib.hid (reads_of L)
  obtain ⟨x, hx⟩ : ∃ x, Hid (readR L = x) := ⟨_, rfl⟩
  have HD : Hid (decR L = if x.ok then some x.rc else none) := by unfold Hid; rw [← hx.out]; rfl
  rw [hx.out] at HX
  obtain ⟨L1, L2, L3, L4, L5, L6, L7, b1, b2, b3, b4, b5, b6, b7, t1, t2, t3, t4, t5, t6, t7, t8⟩ := HX.out.all
  obtain ⟨xo, xq, xkey, xm, xc, xg, xt, xval, xrest, xbad⟩ := x
  simp only at t1 t2 t3 t4 t5 t6 t7 t8
  clear HX hx
  have hl1 : L1.length ≤ 1099511627776 := by have := takeNum_len L false; rw [t1] at this; simp only at this; omega
  have hl2 : L2.length ≤ 1099511627776 := by have := takeNum_len L1 b1; rw [t2] at this; simp only at this; omega
  have hl3 : L3.length ≤ 1099511627776 := by have := (takeRow_len L2 b2).1; rw [t3] at this; simp only at this; omega
  have hlk : xkey.length ≤ 1099511627776 := by have := (takeRow_len L2 b2).2; rw [t3] at this; simp only at this; omega
  have hl4 : L4.length ≤ 1099511627776 := by have := takeNum_len L3 b3; rw [t4] at this; simp only at this; omega
  have hl5 : L5.length ≤ 1099511627776 := by have := takeNum_len L4 b4; rw [t5] at this; simp only at this; omega
  have hl6 : L6.length ≤ 1099511627776 := by have := takeNum_len L5 b5; rw [t6] at this; simp only at this; omega
  have hl7 : L7.length ≤ 1099511627776 := by have := takeNum_len L6 b6; rw [t7] at this; simp only at this; omega
  have hlv : xval.length ≤ 1099511627776 := by have := (takeRow_len L7 b7).2; rw [t8] at this; simp only at this; omega
  have T1 := Lib.hid t1
  have T2 := Lib.hid t2
  have T3 := Lib.hid t3
  have T4 := Lib.hid t4
  have T5 := Lib.hid t5
  have T6 := Lib.hid t6
  have T7 := Lib.hid t7
  have T8 := Lib.hid t8
  clear t1 t2 t3 t4 t5 t6 t7 t8
  go_enter Try.func67, Try.ntmps67
  go_wp2_with (fail)
  obtain ⟨S, hS⟩ : ∃ S, Hid ((if L.length = 0 then [] else blk A) = S) := ⟨_, rfl⟩
  have hS' : Hid (∀ k ∈ S, k < w.heap.size) := fun k hk => by
    rw [← hS.out] at hk
    split at hk
    · simp at hk
    · rename_i h0
      obtain ⟨ad, rfl, hb, _⟩ := HR.out.at_ (by omega)
      simp [blk] at hk; omega
  have r0 : RrG 100 ((w.alloc (.cells #[.int .i64 0, .int .i64 0, .string ⟨#[]⟩, .int .i64 0, .int .i64 0, .int .i64 0, .slice none 0 0, .bool false, .int .i64 0] 51)).alloc (.cells #[.slice A L.length c, .bool false] 100)) (w.heap.size + 1) S ((w.alloc (.cells #[.int .i64 0, .int .i64 0, .string ⟨#[]⟩, .int .i64 0, .int .i64 0, .int .i64 0, .slice none 0 0, .bool false, .int .i64 0] 51)).alloc (.cells #[.slice A L.length c, .bool false] 100)) A c L false :=
    ⟨by have h := At.new (w.alloc (.cells #[.int .i64 0, .int .i64 0, .string ⟨#[]⟩, .int .i64 0, .int .i64 0, .int .i64 0, .slice none 0 0, .bool false, .int .i64 0] 51)) 100 #[.slice A L.length c, .bool false]; simpa using h, (HR.out.alloc _).alloc _, hc, Chg.refl _ _, fun h0 k hk => by rw [← hS.out, if_neg (by omega)]; exact hk, fun hm => by have := hS'.out _ hm; omega, by simp⟩
  have a0 := (At.new w 51 #[.int .i64 0, .int .i64 0, .string ⟨#[]⟩, .int .i64 0, .int .i64 0, .int .i64 0, .slice none 0 0, .bool false, .int .i64 0]).al (.cells #[.slice A L.length c, .bool false] 100)
  have hc0 : Chg [] w ((w.alloc (.cells #[.int .i64 0, .int .i64 0, .string ⟨#[]⟩, .int .i64 0, .int .i64 0, .int .i64 0, .slice none 0 0, .bool false, .int .i64 0] 51)).alloc (.cells #[.slice A L.length c, .bool false] 100)) := ((Chg.refl _ _).alloc _).alloc _
  have hB1 : w.heap.size + 1 ∉ S := fun hm => by have := hS'.out _ hm; omega
  have hB1 := Lib.hid hB1
  clear hS
  refine (fnum_any (w.heap.size + 1) S _ _ A c L false r0 hl).mono ?_
  rw [T1.out]
  rintro e w1 ⟨rfl, A1, c1, r1⟩
  simp only at r1 ⊢
  have a1 := a0.keep r1.chg (by simp)
  have hc1 : Chg [] w w1 := hc0.trans r1.chg (by simp)
  clear r0 a0 hc0
  go_wp2_with (fail)
  refine (fnum_any (w.heap.size + 1) S w1 _ A1 c1 L1 b1 r1.here hl1).mono ?_
  rw [T2.out]
  rintro e w2 ⟨rfl, A2, c2, r2⟩
  simp only at r2 ⊢
  have a2 := a1.keep r2.chg (by simp)
  have hc2 : Chg [] w w2 := hc1.trans r2.chg (by simp)
  clear r1 a1 hc1
  go_wp2_with (fail)
  refine (fbytes_any (w.heap.size + 1) S w2 _ A2 c2 L2 b2 r2.here hl2).mono ?_
  rw [T3.out]
  rintro e w3 ⟨A3, c3, rfl, hown3, A3', c3', r3⟩
  simp only at r3 hown3 ⊢
  have a3 := a2.keep r3.chg (by simp)
  have hc3 : Chg [] w w3 := hc2.trans r3.chg (by simp)
  have e7 := run_str (P := Try.prog) w3 47 9 5 Try.underlying47 Try.underlying5 Try.underlying9 A3 xkey.length c3 xkey rfl (Rd.of_own hown3)
  clear r2 a2 hc2 hown3
  go_upto_region 4 with (fail)
  have hlt3 := r3.at_.lt
  have r4 : RrG 100 (w3.alloc (.cells #[.int .i64 (xo : Int), .int .i64 (xq : Int), .string ⟨xkey.toArray⟩, .int .i64 0, .int .i64 0, .int .i64 0, .slice none 0 0, .bool false, .int .i64 0] 51)) (w.heap.size + 1) S (w3.alloc (.cells #[.int .i64 (xo : Int), .int .i64 (xq : Int), .string ⟨xkey.toArray⟩, .int .i64 0, .int .i64 0, .int .i64 0, .slice none 0 0, .bool false, .int .i64 0] 51)) A3' c3' L3 b3 := r3.k0 ((Chg.refl [] w3).alloc _)
  have a4 := a3.al (.cells #[.int .i64 (xo : Int), .int .i64 (xq : Int), .string ⟨xkey.toArray⟩, .int .i64 0, .int .i64 0, .int .i64 0, .slice none 0 0, .bool false, .int .i64 0] 51)
  have g4 := At.new w3 51 #[.int .i64 (xo : Int), .int .i64 (xq : Int), .string ⟨xkey.toArray⟩, .int .i64 0, .int .i64 0, .int .i64 0, .slice none 0 0, .bool false, .int .i64 0]
  have hc4 : Chg [] w (w3.alloc (.cells #[.int .i64 (xo : Int), .int .i64 (xq : Int), .string ⟨xkey.toArray⟩, .int .i64 0, .int .i64 0, .int .i64 0, .slice none 0 0, .bool false, .int .i64 0] 51)) := hc3.alloc _
  clear a3 r3 hc3 e7
  generalize w3.alloc (.cells #[.int .i64 (xo : Int), .int .i64 (xq : Int), .string ⟨xkey.toArray⟩, .int .i64 0, .int .i64 0, .int .i64 0, .slice none 0 0, .bool false, .int .i64 0] 51) = wb at *
  generalize w3.heap.size = g at *
  have y0 := g4.cell 0
  simp only [List.getElem?_toArray, List.getElem?_cons_zero] at y0
  have hgl := g4.lt
  go_cut [21] (fun s wx => ∃ (A6 : Option Addr) (c6 : Nat), RrG 100 wx (w.heap.size + 1) S wx A6 c6 L5 b5 ∧ At wx g 51 #[.int .i64 (xo : Int), .int .i64 (xq : Int), .string ⟨xkey.toArray⟩, .int .i64 (xm : Int), .int .i64 (xc : Int), .int .i64 (xo : Int), .slice none 0 0, .bool false, .int .i64 0] ∧ At wx w.heap.size 51 #[.int .i64 0, .int .i64 0, .string ⟨#[]⟩, .int .i64 0, .int .i64 0, .int .i64 0, .slice none 0 0, .bool false, .int .i64 0] ∧ Chg [] w wx)
  case first =>
    go_region_held3 (fun w' => w'.cell? ⟨g, 0, none⟩ = some (.int .i64 (xo : Int))) (first | go_keep | (simpa using (At.cell ((((((g6.set_ 3 (.int .i64 (xm : Int))).set_ 4 (.int .i64 (xc : Int))).set_ 5 (.int .i64 (xo : Int))).set_ 6 (.slice none 0 0)).set_ 7 (.bool false)).set_ 8 (.int .i64 0)) 0)) | (simpa using (At.cell (((((((g6.drewN 1).set_ 3 (.int .i64 (xm : Int))).set_ 4 (.int .i64 (xc : Int))).set_ 5 (.int .i64 (xo : Int))).set_ 6 (.slice none 0 0)).set_ 7 (.bool false)).set_ 8 (.int .i64 0)) 0)) | (simpa using (At.cell (((((((g6.drewN 2).set_ 3 (.int .i64 (xm : Int))).set_ 4 (.int .i64 (xc : Int))).set_ 5 (.int .i64 (xo : Int))).set_ 6 (.slice none 0 0)).set_ 7 (.bool false)).set_ 8 (.int .i64 0)) 0)) | fail)
      (first
        | (go_simp; go_at_call 46; (with_reducible refine (fnum_to (w.heap.size + 1) S _ A3' c3' L3 b3 xm L4 b4 T4.out (r4.k0 ?_) hl3).mono ?_); (focus ((repeat' (first | (with_reducible assumption) | (with_reducible exact Chg.refl _ _) | (with_reducible refine Chg.alloc ?_ _) | (with_reducible refine Chg.drewN ?_ _) | (with_reducible refine Chg.drew ?_) | (with_reducible refine Chg.t0 ?_ (by with_reducible assumption)))); done)); rintro e w5 ⟨rfl, A5, c5, r5⟩; have hch5 : Hid (Chg [w.heap.size + 1] wb w5) := (by refine Chg.trans (T := [w.heap.size + 1]) (Chg.mono (S := []) ?_ (by simp)) r5.chg (fun _ h => .inl h); (focus ((repeat' (first | (with_reducible assumption) | (with_reducible exact Chg.refl _ _) | (with_reducible refine Chg.alloc ?_ _) | (with_reducible refine Chg.drewN ?_ _) | (with_reducible refine Chg.drew ?_) | (with_reducible refine Chg.t0 ?_ (by with_reducible assumption)))); done))); have g5 := g4.keep hch5.out (by simp; omega); have d0 := g5.cell 0; simp only [List.getElem?_toArray, List.getElem?_cons_zero] at d0)
        | (go_simp; go_at_call 46; (with_reducible refine (fnum_to (w.heap.size + 1) S _ A5 c5 L4 b4 xc L5 b5 T5.out (r5.k0 ?_) hl4).mono ?_); (focus ((repeat' (first | (with_reducible assumption) | (with_reducible exact Chg.refl _ _) | (with_reducible refine Chg.alloc ?_ _) | (with_reducible refine Chg.drewN ?_ _) | (with_reducible refine Chg.drew ?_) | (with_reducible refine Chg.t0 ?_ (by with_reducible assumption)))); done)); rintro e w6 ⟨rfl, A6, c6, r6⟩; have hch6 : Hid (Chg [w.heap.size + 1] wb w6) := (by refine hch5.out.trans (T := [w.heap.size + 1]) (Chg.trans (T := [w.heap.size + 1]) (Chg.mono (S := []) ?_ (by simp)) r6.chg (fun _ h => .inl h)) (fun _ h => .inl h); (focus ((repeat' (first | (with_reducible assumption) | (with_reducible exact Chg.refl _ _) | (with_reducible refine Chg.alloc ?_ _) | (with_reducible refine Chg.drewN ?_ _) | (with_reducible refine Chg.drew ?_) | (with_reducible refine Chg.t0 ?_ (by with_reducible assumption)))); done))); have g6 := g4.keep hch6.out (by simp; omega); have k0 := g6.cell 0; have k3 := g6.cell 3; have k4 := g6.cell 4; have k5 := g6.cell 5; have k6 := g6.cell 6; have k7 := g6.cell 7; have k8 := g6.cell 8; have f3 := g6.free 3; have f4 := g6.free 4; have f5 := g6.free 5; have f6 := g6.free 6; have f7 := g6.free 7; have f8 := g6.free 8; simp only [List.getElem?_toArray, List.getElem?_cons_zero, List.getElem?_cons_succ] at k0 k3 k4 k5 k6 k7 k8))
    all_goals
      go_wp2_with (fail)
      go_meet
      have hk : At ((((((w6.setCell ⟨g, 3, none⟩ (.int .i64 (xm : Int))).setCell ⟨g, 4, none⟩ (.int .i64 (xc : Int))).setCell ⟨g, 5, none⟩ (.int .i64 (xo : Int))).setCell ⟨g, 6, none⟩ (.slice none 0 0)).setCell ⟨g, 7, none⟩ (.bool false)).setCell ⟨g, 8, none⟩ (.int .i64 0)) g 51 #[.int .i64 (xo : Int), .int .i64 (xq : Int), .string ⟨xkey.toArray⟩, .int .i64 (xm : Int), .int .i64 (xc : Int), .int .i64 (xo : Int), .slice none 0 0, .bool false, .int .i64 0] := by simpa using ((((((g6.set_ 3 (.int .i64 (xm : Int))).set_ 4 (.int .i64 (xc : Int))).set_ 5 (.int .i64 (xo : Int))).set_ 6 (.slice none 0 0)).set_ 7 (.bool false)).set_ 8 (.int .i64 0))
      have hq : Chg [g] w6 _ := (((((((Chg.refl [g] w6).setCell (p := ⟨g, 3, none⟩) (.inl (by simp)) (.int .i64 (xm : Int))).setCell (p := ⟨g, 4, none⟩) (.inl (by simp)) (.int .i64 (xc : Int))).setCell (p := ⟨g, 5, none⟩) (.inl (by simp)) (.int .i64 (xo : Int))).setCell (p := ⟨g, 6, none⟩) (.inl (by simp)) (.slice none 0 0)).setCell (p := ⟨g, 7, none⟩) (.inl (by simp)) (.bool false)).setCell (p := ⟨g, 8, none⟩) (.inl (by simp)) (.int .i64 0))
      have hr := r6.stay hq (by intro k hk; obtain rfl := List.mem_singleton.1 hk; exact ⟨by omega, fun hm => by have := hS'.out _ hm; omega⟩)
      have ha := (a4.keep hch6.out (by simp)).keep hq (by simp; omega)
      have hcx : Chg [] w _ := (hc4.trans hch6.out (by simp)).trans hq (by simp; omega)
      first
        | exact ⟨A6, c6, hr, hk, ha, hcx⟩
        | exact ⟨A6, c6, hr.k0 ((Chg.refl [] _).drewN 1), hk.drewN 1, ha.drewN 1, hcx.drewN 1⟩
        | exact ⟨A6, c6, hr.k0 ((Chg.refl [] _).drewN 2), hk.drewN 2, ha.drewN 2, hcx.drewN 2⟩
        | trace_state
  case rest =>
    obtain ⟨A6, c6, r6, g6, a6, hc6⟩ := hcut
    clear r4 a4 g4 hc4 y0 hgl
    go_wp2_with (fail)
    refine (fnum_any (w.heap.size + 1) S wc _ A6 c6 L5 b5 r6 hl5).mono ?_
    rw [T6.out]
    rintro e w7 ⟨rfl, A7, c7, r7⟩
    simp only at r7 ⊢
    have g7 := g6.keep r7.chg (by simp; omega)
    have a7 := a6.keep r7.chg (by simp)
    have hc7 : Chg [] w w7 := hc6.trans r7.chg (by simp)
    have hxg : ((xg : Int) == 1) = (xg == 1) := by
      by_cases h : xg = 1
      · rw [h]; rfl
      · rw [beq_eq_false_iff_ne.2 h, beq_eq_false_iff_ne.2 (by omega)]
    have Hxg := Lib.hid hxg
    have k7 := g7.cell 7
    have f7 := g7.free 7
    simp only [List.getElem?_toArray, List.getElem?_cons_zero, List.getElem?_cons_succ] at k7
    clear r6 g6 a6 hc6 hxg
    go_wp2_with (fail)
    rw [Hxg.out]
    have q8 : Chg [g] w7 (w7.setCell ⟨g, 7, none⟩ (.bool (xg == 1))) := (Chg.refl [g] w7).setCell (.inl (by simp)) _
    have g8 : At (w7.setCell ⟨g, 7, none⟩ (.bool (xg == 1))) g 51 #[.int .i64 (xo : Int), .int .i64 (xq : Int), .string ⟨xkey.toArray⟩, .int .i64 (xm : Int), .int .i64 (xc : Int), .int .i64 (xo : Int), .slice none 0 0, .bool (xg == 1), .int .i64 0] := by simpa using g7.set_ 7 (.bool (xg == 1))
    have hgn : Hid (∀ k ∈ [g], k ≠ w.heap.size + 1 ∧ k ∉ S) := by intro k hk; obtain rfl := List.mem_singleton.1 hk; exact ⟨by omega, fun hm => by have := hS'.out _ hm; omega⟩
    have r8 := r7.stay q8 hgn.out
    have a8 := a7.keep q8 (by simp; omega)
    have hc8 : Chg [] w _ := hc7.trans q8 (by simp; omega)
    clear q8 g7 r7 a7 hc7 k7 f7 Hxg
    generalize w7.setCell ⟨g, 7, none⟩ (.bool (xg == 1)) = w8 at *
    refine (fnum_any (w.heap.size + 1) S w8 _ A7 c7 L6 b6 r8 hl6).mono ?_
    rw [T7.out]
    rintro e w9 ⟨rfl, A9, c9, r9⟩
    simp only at r9 ⊢
    have g9 := g8.keep r9.chg (by simp; omega)
    have a9 := a8.keep r9.chg (by simp)
    have hc9 : Chg [] w w9 := hc8.trans r9.chg (by simp)
    have k8 := g9.cell 8
    have f8 := g9.free 8
    simp only [List.getElem?_toArray, List.getElem?_cons_zero, List.getElem?_cons_succ] at k8
    clear r8 g8 a8 hc8
    go_wp2_with (fail)
    have q10 : Chg [g] w9 (w9.setCell ⟨g, 8, none⟩ (.int .i64 (xt : Int))) := (Chg.refl [g] w9).setCell (.inl (by simp)) _
    have g10 : At (w9.setCell ⟨g, 8, none⟩ (.int .i64 (xt : Int))) g 51 #[.int .i64 (xo : Int), .int .i64 (xq : Int), .string ⟨xkey.toArray⟩, .int .i64 (xm : Int), .int .i64 (xc : Int), .int .i64 (xo : Int), .slice none 0 0, .bool (xg == 1), .int .i64 (xt : Int)] := by simpa using g9.set_ 8 (.int .i64 (xt : Int))
    have r10 := r9.stay q10 hgn.out
    have a10 := a9.keep q10 (by simp; omega)
    have hc10 : Chg [] w _ := hc9.trans q10 (by simp; omega)
    clear q10 g9 r9 a9 hc9 k8 f8
    generalize w9.setCell ⟨g, 8, none⟩ (.int .i64 (xt : Int)) = w10 at *
    refine (fbytes_any (w.heap.size + 1) S w10 _ A9 c9 L7 b7 r10 hl7).mono ?_
    rw [T8.out]
    rintro e w10b ⟨A10, c10, rfl, hown10, A11, c11, r11b⟩
    simp only at r11b hown10 ⊢
    have g11 := g10.keep r11b.chg (by simp; omega)
    have a11 := a10.keep r11b.chg (by simp)
    have hc11b : Chg [] w w10b := hc10.trans r11b.chg (by simp)
    have hgl10 := g10.lt
    have own10 : w10b.ownsRow (g + 1) 5 1 (.slice A10 xval.length c10) xval.length (cB xval) := own_up hown10 (by omega)
    have k6 := g11.cell 6
    have f6 := g11.free 6
    simp only [List.getElem?_toArray, List.getElem?_cons_zero, List.getElem?_cons_succ] at k6
    clear r10 g10 a10 hc10 hown10
    go_wp2_with (fail)
    have q11 : Chg [g] w10b (w10b.setCell ⟨g, 6, none⟩ (.slice A10 xval.length c10)) := (Chg.refl [g] w10b).setCell (.inl (by simp)) _
    have a1 : At (w10b.setCell ⟨g, 6, none⟩ (.slice A10 xval.length c10)) g 51 #[.int .i64 (xo : Int), .int .i64 (xq : Int), .string ⟨xkey.toArray⟩, .int .i64 (xm : Int), .int .i64 (xc : Int), .int .i64 (xo : Int), .slice A10 xval.length c10, .bool (xg == 1), .int .i64 (xt : Int)] := by simpa using g11.set_ 6 (.slice A10 xval.length c10)
    have r11 := r11b.stay q11 hgn.out
    have a0 := a11.keep q11 (by simp; omega)
    have own11 : (w10b.setCell ⟨g, 6, none⟩ (.slice A10 xval.length c10)).ownsRow (g + 1) 5 1 (.slice A10 xval.length c10) xval.length (cB xval) := own_keep own10 q11 (fun k hk hm => by have := (own10.lt k hk).1; simp at hm; omega)
    have hc11 : Chg [] w _ := hc11b.trans q11 (by simp; omega)
    clear q11 g11 r11b a11 hc11b own10 k6 f6
    generalize w10b.setCell ⟨g, 6, none⟩ (.slice A10 xval.length c10) = w11 at *
    have own11 := own_up own11 (show w.heap.size + 1 ≤ g + 1 by omega)
    refine (fwhole_any (w.heap.size + 1) S w11 _ A11 c11 xrest xbad r11).mono ?_
    rintro e w' ⟨rfl, rfl⟩
    obtain ⟨wh, hwh⟩ : ∃ wh, Hid ((!xbad && decide (xrest = [])) = wh) := ⟨_, rfl⟩
    rw [hwh.out]
    have hok : Hid ((⟨xo, xq, xkey, xm, xc, xg, xt, xval, xrest, xbad⟩ : Red).ok = (wh && decide (xg ≤ 1) && isR ⟨xo, xq, xkey, xm, xc, xo, xval, xg == 1, xt⟩)) := by
      unfold Hid; rw [← hwh.out]; rfl
    have y0 := a0.cell 0
    have e0 := a0.cell 1
    have e1 := a0.cell 2
    have e2 := a0.cell 3
    have e3 := a0.cell 4
    have e4 := a0.cell 5
    have e5 := a0.cell 6
    have e6 := a0.cell 7
    have e7 := a0.cell 8
    have f0 := a0.free 0
    have f1 := a0.free 1
    have f2 := a0.free 2
    have f3 := a0.free 3
    have f4 := a0.free 4
    have f5 := a0.free 5
    have f6 := a0.free 6
    have f7 := a0.free 7
    have f8 := a0.free 8
    simp only [List.getElem?_toArray, List.getElem?_cons_zero, List.getElem?_cons_succ] at y0 e0 e1 e2 e3 e4 e5 e6 e7
    clear hwh
    cases wh
    · have hno : (⟨xo, xq, xkey, xm, xc, xg, xt, xval, xrest, xbad⟩ : Red).ok = false := by rw [hok.out]; simp
      have HNo := Lib.hid hno
      clear hno
      go_wp2_with (fail)
      refine ret_rec2 (g := w.heap.size) (T := 51) rfl Try.results67 rfl rfl (At.set9 a0 (.int .i64 0) (.int .i64 0) (.string ⟨#[]⟩) (.int .i64 0) (.int .i64 0) (.int .i64 0) (.slice none 0 0) (.bool false) (.int .i64 0)) ?_
      have HN := HD.out
      rw [HNo.out] at HN
      rw [HN]
      exact ⟨⟨Rc.z, none, 0⟩, rfl, rfl, own_none _ _ _ _, Chg.set9 hc11 (.inr (Nat.le_refl _)) (.int .i64 0) (.int .i64 0) (.string ⟨#[]⟩) (.int .i64 0) (.int .i64 0) (.int .i64 0) (.slice none 0 0) (.bool false) (.int .i64 0)⟩
    · by_cases hg : 1 < xg
      · have hno : (⟨xo, xq, xkey, xm, xc, xg, xt, xval, xrest, xbad⟩ : Red).ok = false := by rw [hok.out, decide_eq_false (by omega)]; simp
        have HNo := Lib.hid hno
        clear hno
        go_wp2_with (fail)
        refine ret_rec2 (g := w.heap.size) (T := 51) rfl Try.results67 rfl rfl (At.set9 a0 (.int .i64 0) (.int .i64 0) (.string ⟨#[]⟩) (.int .i64 0) (.int .i64 0) (.int .i64 0) (.slice none 0 0) (.bool false) (.int .i64 0)) ?_
        have HN := HD.out
        rw [HNo.out] at HN
        rw [HN]
        exact ⟨⟨Rc.z, none, 0⟩, rfl, rfl, own_none _ _ _ _, Chg.set9 hc11 (.inr (Nat.le_refl _)) (.int .i64 0) (.int .i64 0) (.string ⟨#[]⟩) (.int .i64 0) (.int .i64 0) (.int .i64 0) (.slice none 0 0) (.bool false) (.int .i64 0)⟩
      · have b0 := a1.cell 0
        have b1' := a1.cell 1
        have b2' := a1.cell 2
        have b3' := a1.cell 3
        have b4' := a1.cell 4
        have b5' := a1.cell 5
        have b6' := a1.cell 6
        have b7' := a1.cell 7
        have b8' := a1.cell 8
        simp only [List.getElem?_toArray, List.getElem?_cons_zero, List.getElem?_cons_succ] at b0 b1' b2' b3' b4' b5' b6' b7' b8'
        go_wp2_with (fail)
        refine (refIsR_any _ xo xq xkey xm xc xo A10 xval c10 (xg == 1) xt).mono ?_
        rintro e w12 ⟨rfl, hch12⟩
        have k0 := a0.keep hch12 (by simp)
        have k1 := a1.keep hch12 (by simp)
        have own12 := own_k0 own11 hch12
        have hc12 := hc11.trans hch12 (by simp)
        clear y0 e0 e1 e2 e3 e4 e5 e6 e7 f0 f1 f2 f3 f4 f5 f6 f7 f8 b0 b1' b2' b3' b4' b5' b6' b7' b8' a0 a1 r11 own11 hc11 hch12
        have y0 := k0.cell 0
        have e0 := k0.cell 1
        have e1 := k0.cell 2
        have e2 := k0.cell 3
        have e3 := k0.cell 4
        have e4 := k0.cell 5
        have e5 := k0.cell 6
        have e6 := k0.cell 7
        have e7 := k0.cell 8
        have f0 := k0.free 0
        have f1 := k0.free 1
        have f2 := k0.free 2
        have f3 := k0.free 3
        have f4 := k0.free 4
        have f5 := k0.free 5
        have f6 := k0.free 6
        have f7 := k0.free 7
        have f8 := k0.free 8
        have b0 := k1.cell 0
        have b1' := k1.cell 1
        have b2' := k1.cell 2
        have b3' := k1.cell 3
        have b4' := k1.cell 4
        have b5' := k1.cell 5
        have b6' := k1.cell 6
        have b7' := k1.cell 7
        have b8' := k1.cell 8
        simp only [List.getElem?_toArray, List.getElem?_cons_zero, List.getElem?_cons_succ] at y0 e0 e1 e2 e3 e4 e5 e6 e7 b0 b1' b2' b3' b4' b5' b6' b7' b8'
        obtain ⟨p, hp⟩ : ∃ p, Hid (isR ⟨xo, xq, xkey, xm, xc, xo, xval, xg == 1, xt⟩ = p) := ⟨_, rfl⟩
        rw [hp.out] at hok ⊢
        cases p
        · have HNo : Hid ((⟨xo, xq, xkey, xm, xc, xg, xt, xval, xrest, xbad⟩ : Red).ok = false) := by unfold Hid; rw [hok.out]; simp
          go_wp2_with (fail)
          refine ret_rec2 (g := w.heap.size) (T := 51) rfl Try.results67 rfl rfl (At.set9 k0 (.int .i64 0) (.int .i64 0) (.string ⟨#[]⟩) (.int .i64 0) (.int .i64 0) (.int .i64 0) (.slice none 0 0) (.bool false) (.int .i64 0)) ?_
          have HN := HD.out
          rw [HNo.out] at HN
          rw [HN]
          exact ⟨⟨Rc.z, none, 0⟩, rfl, rfl, own_none _ _ _ _, Chg.set9 hc12 (.inr (Nat.le_refl _)) (.int .i64 0) (.int .i64 0) (.string ⟨#[]⟩) (.int .i64 0) (.int .i64 0) (.int .i64 0) (.slice none 0 0) (.bool false) (.int .i64 0)⟩
        · have HYes : Hid ((⟨xo, xq, xkey, xm, xc, xg, xt, xval, xrest, xbad⟩ : Red).ok = true) := by unfold Hid; rw [hok.out, decide_eq_true (by omega)]; simp
          go_wp2_with (fail)
          refine ret_rec2 (g := w.heap.size) (T := 51) rfl Try.results67 rfl rfl (At.set9 k0 (.int .i64 (xo : Int)) (.int .i64 (xq : Int)) (.string ⟨xkey.toArray⟩) (.int .i64 (xm : Int)) (.int .i64 (xc : Int)) (.int .i64 (xo : Int)) (.slice A10 xval.length c10) (.bool (xg == 1)) (.int .i64 (xt : Int))) ?_
          have HN := HD.out
          rw [HYes.out] at HN
          rw [HN]
          refine ⟨⟨⟨xo, xq, xkey, xm, xc, xo, xval, xg == 1, xt⟩, A10, c10⟩, rfl, rfl, ?_, Chg.set9 hc12 (.inr (Nat.le_refl _)) (.int .i64 (xo : Int)) (.int .i64 (xq : Int)) (.string ⟨xkey.toArray⟩) (.int .i64 (xm : Int)) (.int .i64 (xc : Int)) (.int .i64 (xo : Int)) (.slice A10 xval.length c10) (.bool (xg == 1)) (.int .i64 (xt : Int))⟩
          refine own_up (base := w.heap.size + 1) (own_keep own12 (Chg.set9 (Chg.refl [w.heap.size] _) (.inl (by simp)) (.int .i64 (xo : Int)) (.int .i64 (xq : Int)) (.string ⟨xkey.toArray⟩) (.int .i64 (xm : Int)) (.int .i64 (xc : Int)) (.int .i64 (xo : Int)) (.slice A10 xval.length c10) (.bool (xg == 1)) (.int .i64 (xt : Int))) (fun k hk hm => ?_)) (by omega)
          have := (own12.lt k hk).1
          simp at hm
          omega
end Go.Proofs.Ytdfkednggjelcaa
namespace Go.Proofs.Ytdfkednggjelcaa
open Go.RowKit
set_option linter.unusedVariables false

def OwnV (w : World) (base : Nat) (x : RcV) : Prop := w.ownsRow base 5 1 (.slice x.A x.r.val.length x.cp) x.r.val.length (cB x.r.val)
def RListPost (w : World) (o : Option (List Rc)) (e : Ending) (w' : World) : Prop := ∃ A c ls, e = .returned (.tuple #[.slice A ls.length c, .int .i64 (if o.isSome then 0 else 3)]) ∧ ls.map RcV.r = o.getD [] ∧
  w'.ownsRow w.heap.size 51 9 (.slice A ls.length c) ls.length (cRc ls) ∧ (∀ x ∈ ls, OwnV w' w.heap.size x) ∧ Chg [] w w'
theorem RListPost.bad {w w' : World} {o : Option (List Rc)} (ho : o = none) (h : Chg [] w w') : RListPost w o (.returned (.tuple #[.slice none 0 0, .int .i64 3])) w' := by
  subst ho
  exact ⟨none, 0, [], rfl, rfl, own_none _ _ _ _, by simp, h⟩
theorem info_rec : (Try.prog.info? 51).map (fun i => (i.zero, i.size, i.bytes)) = some (some (.agg #[.int .i64 0, .int .i64 0, .string ⟨#[]⟩, .int .i64 0, .int .i64 0, .int .i64 0, .slice none 0 0, .bool false, .int .i64 0]), 9, 96) := by kernel_rfl
theorem own_ne' {w : World} {b b' : Nat} {e e' : TypeId} {s s' n n' : Nat} {v v' : Value} {xs ys : List Value} (h : w.ownsRow b e s v n xs) (h' : w.ownsRow b' e' s' v' n' ys) (hne : e ≠ e') : ∀ k, v.ownBlock = some k → v'.ownBlock ≠ some k := by
  intro k hk hk'
  rcases h'.2 with ⟨rfl, _⟩ | ⟨g', cap, cur, rfl, _, hh, _⟩
  · simp [Value.ownBlock] at hk'
  · have hg : g' = k := by simpa [Value.ownBlock] using hk'
    subst hg
    exact own_at_ne h (show At w g' e' cur from hh) hne _ hk rfl
theorem decL_64 {L : List UInt8} {n : Nat} {L1 : List UInt8} {b1 : Bool} (h : takeNum L false = (n, L1, b1)) (hn : 64 < n) : decL L = none := by
  unfold decL; rw [h, if_pos hn]
theorem decL_none {L : List UInt8} {n : Nat} {L1 : List UInt8} {b1 : Bool} (h : takeNum L false = (n, L1, b1)) (hn : takeRs n L1 b1 = none) : decL L = none := by
  unfold decL; rw [h]; split
  · rfl
  · simp only [hn]
theorem decL_end {L : List UInt8} {n : Nat} {L1 X : List UInt8} {b1 b' : Bool} {l : List Rc} (h : takeNum L false = (n, L1, b1)) (h64 : n ≤ 64) (hn : takeRs n L1 b1 = some (l, X, b')) : decL L = if (!b' && decide (X = [])) then some l else none := by
  unfold decL; rw [h, if_neg (by simp only; omega)]
  simp only [hn]
  cases b' <;> by_cases hX : X = [] <;> simp [hX]
theorem cells_cRc (x : RcV) : x.cells = cRc [x] := (cRc_one' x).symm

end Go.Proofs.Ytdfkednggjelcaa
namespace Go.Proofs.Ytdfkednggjelcaa
open Go.RowKit
set_option linter.unusedVariables false

theorem takeRow_bad (X : List UInt8) (h : X = []) : takeRow X true = ([], [], true) := by subst h; decide

/-- What has been read up to now: the records; or something was none. -/
def ReadSo (L : List UInt8) (nn : Nat) (L1 : List UInt8) (b1 : Bool) (k : Nat) (ls : List Rc) (X : List UInt8) (b' : Bool) : Prop :=
  nn ≤ 64 → takeRs k L1 b1 = some (ls, X, b') ∨ (b' = true ∧ takeRs nn L1 b1 = none)

set_option maxRecDepth 100000 in
set_option maxHeartbeats 6400000 in
theorem refReadList_any (w : World) (A : Option Addr) (n c : Nat) (L : List UInt8) (hn : L.length = n) (hr : Rd w 1 A L.length (cB L)) (hlc : L.length ≤ c) (hl : L.length ≤ 1000000) :
    Calls Try.prog 47 #[.slice A n c] w (RListPost w (decL L)) := by
  subst hn
  obtain ⟨i1, hi1, hy0, hy1, hy2⟩ := info_parts info_rec
  have HR := Lib.hid hr
  clear hr
  obtain ⟨nn, L1, b1, t1⟩ : ∃ nn L1 b1, takeNum L false = (nn, L1, b1) := ⟨_, _, _, rfl⟩
  have hl1 : L1.length ≤ L.length := by have := takeNum_len L false; rw [t1] at this; exact this
  have hnn : nn ≤ 4611686018427387904 := by have := takeNum_le L false; rw [t1] at this; exact this
  have T1 := Lib.hid t1
  clear t1
  obtain ⟨S, hS⟩ : ∃ S, Hid ((if L.length = 0 then [] else blk A) = S) := ⟨_, rfl⟩
  have hS' : Hid (∀ k ∈ S, k < w.heap.size) := fun k hk => by
    rw [← hS.out] at hk
    split at hk
    · simp at hk
    · rename_i h0
      obtain ⟨ad, rfl, hb, _⟩ := HR.out.at_ (by omega)
      simp [blk] at hk; omega
  have r0 : RrG 100 (w.alloc (.cells #[.slice A L.length c, .bool false] 100)) w.heap.size S (w.alloc (.cells #[.slice A L.length c, .bool false] 100)) A c L false :=
    ⟨At.new w _ _, HR.out.alloc _, hlc, Chg.refl _ _, fun h0 k hk => by rw [← hS.out, if_neg (by omega)]; exact hk, fun hm => by have := hS'.out _ hm; omega, by simp⟩
  clear hS
  go_enter Try.func47, Try.ntmps47
  go_wp2_with (fail)
  refine (fnum_any w.heap.size S _ _ A c L false r0 (by omega)).mono ?_
  rw [T1.out]
  rintro e w5 ⟨rfl, A2, c2, r5⟩
  simp only at r5 ⊢
  have hc5 : Chg [] w w5 := ((Chg.refl [] w).alloc _).trans r5.chg (by simp)
  have hs5 : w.heap.size + 1 ≤ w5.heap.size := by have := r5.chg.size; simp at this; omega
  clear r0
  go_wp2_with (fail)
  go_loopw [6, 7] (fun s i wr => ∃ (k : Nat) (A6 A7 : Option Addr) (c6 c7 : Nat) (ls : List RcV) (X : List UInt8) (b' : Bool), k ≤ 65 ∧ i = .int .i64 k ∧ s = .slice A6 ls.length c6 ∧ Hid (ReadSo L nn L1 b1 k (ls.map RcV.r) X b') ∧ Hid (ls.length = k) ∧ X.length ≤ 1000000 ∧ (nn ≤ 64 → k ≤ nn) ∧
      RrG 100 wr w.heap.size S wr A7 c7 X b' ∧ wr.ownsRow (w.heap.size + 1) 51 9 (.slice A6 ls.length c6) ls.length (cRc ls) ∧ Hid (∀ x ∈ ls, OwnV wr (w.heap.size + 1) x) ∧ Chg [] w wr ∧ w.heap.size + 1 ≤ wr.heap.size) (fun _ i _ => 65 - (intOf i).toNat)
  case atStart => exact ⟨0, none, A2, 0, c2, [], L1, b1, by omega, rfl, rfl, fun _ => .inl rfl, rfl, by omega, by omega, r5.here, own_none _ _ _ _, by simp [Hid], hc5, hs5⟩
  case round =>
    obtain ⟨k, A6, A7, c6, c7, ls, X, b', hk, rfl, rfl, HT, HL, hX, hkn, r6, hown6, HO6, hc6, hs6⟩ := hrel
    have x0 := r6.at_.cell 0
    have x1 := r6.at_.cell 1
    have zB := r6.at_.lt
    simp only [List.getElem?_toArray, List.getElem?_cons_zero, List.getElem?_cons_succ] at x0 x1
    by_cases hgo : k < nn ∧ k ≤ 64 ∧ b' = false
    · obtain ⟨hlt, hk64, rfl⟩ := hgo
      have hlr := takeRow_len X false
      have HS := Lib.hid (fun h => takeRs_some (k := k) (L := L1) (b := b1) (l := ls.map RcV.r) (X := X) (b' := false) (r := (decR (takeRow X false).1).getD Rc.z) h)
      have HN := Lib.hid (fun h => takeRs_none (k := k) (L := L1) (b := b1) (l := ls.map RcV.r) (X := X) (b' := false) h)
      obtain ⟨row, X2, b2, t2⟩ : ∃ row X2 b2, takeRow X false = (row, X2, b2) := ⟨_, _, _, rfl⟩
      rw [t2] at HS HN hlr
      simp only at HS HN hlr
      obtain ⟨hlX2, hlrow⟩ := hlr
      have T2 := Lib.hid t2
      clear t2
      have hki : (k : Int) < (nn : Int) := by omega
      have hki2 : (k : Int) ≤ 64 := by omega
      go_wp2_with (fail)
      refine (fbytes_any w.heap.size S wr _ A7 c7 X false r6 (by omega)).mono ?_
      rw [T2.out]
      rintro e w8 ⟨A8, c8, rfl, hown8, A9, c9, r8⟩
      simp only at hown8 r8 ⊢
      have hc8 : Chg [] w w8 := hc6.trans r8.chg (by simp)
      have hown68 := own_keep hown6 r8.chg (fun j hj hm => by have := (hown6.lt j hj).1; simp at hm; omega)
      have HO8 : Hid (∀ x ∈ ls, OwnV w8 (w.heap.size + 1) x) := fun x hx => own_keep (HO6.out x hx) r8.chg (fun j hj hm => by have := ((HO6.out x hx).lt j hj).1; simp at hm; omega)
      have hs8 := r8.chg.size
      have r8' := r8.here
      have hcap8 := own_cap hown8
      have HD := Lib.hid (refDecR_any w8 A8 _ c8 row rfl (Rd.of_own hown8) hcap8 (by omega))
      obtain ⟨o, ho⟩ : ∃ o, Hid (decR row = o) := ⟨_, rfl⟩
      rw [ho.out] at HD HS HN
      clear r6 r8 hown6 HO6 hc6 hown8 hcap8 x0 x1 zB
      go_wp2_with (fail)
      refine HD.out.mono ?_
      rintro e w9 ⟨⟨r9, A10, cp9⟩, rfl, hr9, hown9, hch9⟩
      simp only at hr9 hown9
      have HR9 := Lib.hid hr9
      clear hr9
      have hs9 := hch9.size
      have hown69 := own_k0 hown68 hch9
      have HO9 : Hid (∀ x ∈ ls ++ [⟨r9, A10, cp9⟩], OwnV w9 (w.heap.size + 1) x) := by
        intro x hx
        rcases List.mem_append.1 hx with hx | hx
        · exact own_k0 (HO8.out x hx) hch9
        · obtain rfl := List.mem_singleton.1 hx
          exact own_up hown9 (by omega)
      have r9' := r8'.stay hch9 (by simp)
      have hc9 := hc8.trans hch9 (by simp)
      clear HD hown9 HO8 hown68 r8' hc8 T2
      have hll : ls.length ≤ 64 := by have := HL.out; omega
      cases o with
      | none =>
        have HF : Hid (nn ≤ 64 → takeRs nn L1 b1 = none) := fun h64 => by
          rcases HT.out h64 with h | h
          · exact takeRs_more (HN.out h rfl) (show k + 1 ≤ nn by omega)
          · exact h.2
        obtain ⟨o, q, key, m, c', vo, val, gone, ttl⟩ := r9
        simp only [RcV.cells, Option.isSome_none] at HO9 ⊢
        clear HS HN ho
        have q9 : Chg [] w9 (w9.alloc (.cells #[.int .i64 o, .int .i64 q, .string ⟨key.toArray⟩, .int .i64 m, .int .i64 c', .int .i64 vo, .slice A10 val.length cp9, .bool gone, .int .i64 ttl] 51)) := (Chg.refl [] w9).alloc _
        go_wp2_with (fail)
        refine (fbad_any w.heap.size S _ _ A9 c9 X2 b2 (r9'.k0 q9)).mono ?_
        rintro e w10 ⟨rfl, r10⟩
        have g1 := ((At.new w9 51 #[.int .i64 o, .int .i64 q, .string ⟨key.toArray⟩, .int .i64 m, .int .i64 c', .int .i64 vo, .slice A10 val.length cp9, .bool gone, .int .i64 ttl])).keep r10.chg (by simp; omega)
        have a0 := g1.cell 0
        have a1 := g1.cell 1
        have a2 := g1.cell 2
        have a3 := g1.cell 3
        have a4 := g1.cell 4
        have a5 := g1.cell 5
        have a6 := g1.cell 6
        have a7 := g1.cell 7
        have a8 := g1.cell 8
        have zg := g1.lt
        simp only [List.getElem?_toArray, List.getElem?_cons_zero, List.getElem?_cons_succ] at a0 a1 a2 a3 a4 a5 a6 a7 a8
        have hown70 := own_keep (own_k0 hown69 q9) r10.chg (fun j hj hm => by have := (hown69.lt j hj).1; simp at hm; omega)
        have HO10 : Hid (∀ x ∈ ls ++ [⟨⟨o, q, key, m, c', vo, val, gone, ttl⟩, A10, cp9⟩], OwnV w10 (w.heap.size + 1) x) := fun x hx => own_keep (own_k0 (HO9.out x hx) q9) r10.chg (fun j hj hm => by have := ((HO9.out x hx).lt j hj).1; simp at hm; omega)
        have hc10 : Chg [] w w10 := (hc9.t0 q9).trans r10.chg (by simp)
        have hs10 := r10.chg.size
        simp at hs10
        have r10' := r10.here
        clear r9' HO9 hown69 hc9 g1 r10 q9
        go_wp2_with (at_builtin; refine wpList_append_rd _ rfl (.tmp 41) (.tmp 43) 25 (by rfl) (w.heap.size + 1) 51 i1 _ 9 96 Try.underlying25 hi1 hy0 hy1 hy2 rfl (by omega) (.slice A6 ls.length c6) ls.length (cRc ls) (by rfl) (hown70.alloc _) (some ⟨w10.heap.size, 0, none⟩) 1 1 (cRc [⟨⟨o, q, key, m, c', vo, val, gone, ttl⟩, A10, cp9⟩]) (by rfl) (Rd.new' rfl rfl rfl) (cRc_one _) (by unfold maxLen; omega) (by omega) (by simp; omega) ?_; intro A11 c11 w11 hown11 hg11 hb11)
        rw [← cRc_app] at hown11
        go_roundw
        case rel =>
          have q10 : Chg [] w10 (w10.alloc (.cells #[.int .i64 o, .int .i64 q, .string ⟨key.toArray⟩, .int .i64 m, .int .i64 c', .int .i64 vo, .slice A10 val.length cp9, .bool gone, .int .i64 ttl] 51)) := (Chg.refl [] w10).alloc _
          have g11 := Chg.of_grown hg11
          refine ⟨k + 1, A11, none, c11, 0, ls ++ [⟨⟨o, q, key, m, c', vo, val, gone, ttl⟩, A10, cp9⟩], [], true, by omega, by go_num, by rw [List.length_append]; rfl, ?_, ?_, by simp, by omega, ?_, by rw [List.length_append]; exact hown11, ?_, ?_, ?_⟩
          · exact fun h64 => .inr ⟨rfl, HF.out h64⟩
          · unfold Hid; rw [List.length_append, HL.out]; rfl
          · refine (r10'.stay q10 (by simp)).stay g11 (fun j hj => ?_)
            simp only [Option.mem_toList] at hj
            have h1 := (hown70.lt j hj).1
            exact ⟨by omega, fun hm => by have := hS'.out j hm; omega⟩
          · intro x hx
            have h1 := own_k0 (HO10.out x hx) q10
            refine own_keep h1 g11 (fun j hj hm => ?_)
            simp only [Option.mem_toList] at hm
            exact own_ne' h1 (own_k0 hown70 q10) (by decide) j hj hm
          · exact (hc10.t0 q10).grown hg11 (fun j hj => .inr (by have h1 := (hown70.lt j hj).1; omega))
          · have := hg11.size
            simp at this
            omega
        case measure => simp [intOf]; omega
      | some r =>
        have HF : Hid (nn ≤ 64 → takeRs (k + 1) L1 b1 = some (ls.map RcV.r ++ [r], X2, b2) ∨ (b2 = true ∧ takeRs nn L1 b1 = none)) := fun h64 => by
          rcases HT.out h64 with h | h
          · exact .inl (by have := HS.out h rfl; simpa using this)
          · exact absurd h.1 (by simp)
        have hr9 := HR9.out
        simp only [Option.getD_some] at hr9
        subst hr9
        obtain ⟨o, q, key, m, c', vo, val, gone, ttl⟩ := r9
        simp only [RcV.cells, Option.isSome_some, if_true] at HO9 ⊢
        clear HS HN ho HR9
        go_wp2_with (at_builtin; refine wpList_append_rd _ rfl (.tmp 41) (.tmp 43) 25 (by rfl) (w.heap.size + 1) 51 i1 _ 9 96 Try.underlying25 hi1 hy0 hy1 hy2 rfl (by omega) (.slice A6 ls.length c6) ls.length (cRc ls) (by rfl) ((hown69.alloc _).alloc _) (some ⟨w9.heap.size + 1, 0, none⟩) 1 1 (cRc [⟨⟨o, q, key, m, c', vo, val, gone, ttl⟩, A10, cp9⟩]) (by rfl) (Rd.new' (by simp) rfl rfl) (cRc_one _) (by unfold maxLen; omega) (by omega) (by simp; omega) ?_; intro A11 c11 w11 hown11 hg11 hb11)
        rw [← cRc_app] at hown11
        go_roundw
        case rel =>
          have q9 : Chg [] w9 _ := ((Chg.refl [] w9).alloc (.cells #[.int .i64 o, .int .i64 q, .string ⟨key.toArray⟩, .int .i64 m, .int .i64 c', .int .i64 vo, .slice A10 val.length cp9, .bool gone, .int .i64 ttl] 51)).alloc (.cells #[.int .i64 o, .int .i64 q, .string ⟨key.toArray⟩, .int .i64 m, .int .i64 c', .int .i64 vo, .slice A10 val.length cp9, .bool gone, .int .i64 ttl] 51)
          have g11 := Chg.of_grown hg11
          refine ⟨k + 1, A11, A9, c11, c9, ls ++ [⟨⟨o, q, key, m, c', vo, val, gone, ttl⟩, A10, cp9⟩], X2, b2, by omega, by go_num, by rw [List.length_append]; rfl, ?_, ?_, by omega, by omega, ?_, by rw [List.length_append]; exact hown11, ?_, ?_, ?_⟩
          · unfold Hid ReadSo; rw [List.map_append]; exact HF.out
          · unfold Hid; rw [List.length_append, HL.out]; rfl
          · refine (r9'.stay q9 (by simp)).stay g11 (fun j hj => ?_)
            simp only [Option.mem_toList] at hj
            have h1 := (hown69.lt j hj).1
            exact ⟨by omega, fun hm => by have := hS'.out j hm; omega⟩
          · intro x hx
            have h1 := own_k0 (HO9.out x hx) q9
            refine own_keep h1 g11 (fun j hj hm => ?_)
            simp only [Option.mem_toList] at hm
            exact own_ne' h1 (own_k0 hown69 q9) (by decide) j hj hm
          · exact (hc9.t0 q9).grown hg11 (fun j hj => .inr (by have h1 := (hown69.lt j hj).1; omega))
          · have := hg11.size
            simp at this
            omega
        case measure => simp [intOf]; omega
    · have hend : nn ≤ 64 → k = nn ∨ b' = true := fun h => by
        have := hkn h
        cases b'
        · left
          have : ¬ (k < nn ∧ k ≤ 64) := fun h2 => hgo ⟨h2.1, h2.2, rfl⟩
          omega
        · exact .inr rfl
      have HEnd := Lib.hid hend
      have hgo' : (nn ≤ k) ∨ (k < nn ∧ k = 65) ∨ (k < nn ∧ k ≤ 64 ∧ b' = true) := by
        by_cases h1 : nn ≤ k
        · exact .inl h1
        · by_cases h2 : k = 65
          · exact .inr (.inl ⟨by omega, h2⟩)
          · right; right
            cases b'
            · exact absurd ⟨by omega, by omega, rfl⟩ hgo
            · exact ⟨by omega, by omega, rfl⟩
      -- what comes of it
      have HDL : Hid (decL L = if (decide (nn ≤ 64) && (!b' && decide (X = []))) then some (ls.map RcV.r) else none) := by
        unfold Hid
        by_cases h64 : nn ≤ 64
        · rcases HT.out h64 with h | h
          · rcases hend h64 with rfl | hb
            · rw [decL_end T1.out h64 h]; simp [h64]
            · subst hb
              have hXe := r6.err rfl
              subst hXe
              simp only [Bool.not_true, Bool.false_and, Bool.and_false, Bool.false_eq_true, if_false]
              by_cases hkn2 : k = nn
              · subst hkn2; rw [decL_end T1.out h64 h]; simp
              · refine decL_none T1.out (takeRs_more (takeRs_none h ?_) (show k + 1 ≤ nn by have := hkn h64; omega))
                rw [takeRow_bad [] rfl]; exact decR_nil
          · rw [decL_none T1.out h.2, h.1]; simp
        · rw [decL_64 T1.out (by omega)]; simp [h64]
      obtain ⟨wh, hwh⟩ : ∃ wh, Hid ((!b' && decide (X = [])) = wh) := ⟨_, rfl⟩
      rw [hwh.out] at HDL
      clear hend hgo
      rcases hgo' with h | h | h
      · have hki : ¬ (k : Int) < (nn : Int) := by omega
        clear x1
        by_cases h64 : 64 < nn
        · have h64I : (64 : Int) < (nn : Int) := by omega
          go_wp2_with (fail)
          go_ret2
          exact RListPost.bad (by rw [HDL.out, decide_eq_false (by omega)]; simp) hc6
        · have h64I : ¬ (64 : Int) < (nn : Int) := by omega
          go_wp2_with (fail)
          refine (fwhole_any w.heap.size S wr _ A7 c7 X b' r6).mono ?_
          rintro e w' ⟨rfl, rfl⟩
          rw [hwh.out]
          cases wh
          · go_wp2_with (fail)
            go_ret2
            exact RListPost.bad (by rw [HDL.out]; simp) hc6
          · go_wp2_with (fail)
            go_ret2
            have HE' : Hid (decL L = some (ls.map RcV.r)) := by unfold Hid; rw [HDL.out, decide_eq_true (by omega)]; simp
            rw [HE'.out]
            exact ⟨A6, c6, ls, rfl, rfl, own_up hown6 (by omega), fun x hx => own_up (HO6.out x hx) (by omega), hc6⟩
      · obtain ⟨h, h2⟩ := h
        have hki : (k : Int) < (nn : Int) := by omega
        have hki2 : ¬ (k : Int) ≤ 64 := by omega
        clear x1 h2
        by_cases h64 : 64 < nn
        · have h64I : (64 : Int) < (nn : Int) := by omega
          go_wp2_with (fail)
          go_ret2
          exact RListPost.bad (by rw [HDL.out, decide_eq_false (by omega)]; simp) hc6
        · have h64I : ¬ (64 : Int) < (nn : Int) := by omega
          go_wp2_with (fail)
          refine (fwhole_any w.heap.size S wr _ A7 c7 X b' r6).mono ?_
          rintro e w' ⟨rfl, rfl⟩
          rw [hwh.out]
          cases wh
          · go_wp2_with (fail)
            go_ret2
            exact RListPost.bad (by rw [HDL.out]; simp) hc6
          · go_wp2_with (fail)
            go_ret2
            have HE' : Hid (decL L = some (ls.map RcV.r)) := by unfold Hid; rw [HDL.out, decide_eq_true (by omega)]; simp
            rw [HE'.out]
            exact ⟨A6, c6, ls, rfl, rfl, own_up hown6 (by omega), fun x hx => own_up (HO6.out x hx) (by omega), hc6⟩
      · obtain ⟨h, h2, rfl⟩ := h
        have hki : (k : Int) < (nn : Int) := by omega
        have hki2 : (k : Int) ≤ 64 := by omega
        by_cases h64 : 64 < nn
        · have h64I : (64 : Int) < (nn : Int) := by omega
          go_wp2_with (fail)
          go_ret2
          exact RListPost.bad (by rw [HDL.out, decide_eq_false (by omega)]; simp) hc6
        · have h64I : ¬ (64 : Int) < (nn : Int) := by omega
          go_wp2_with (fail)
          refine (fwhole_any w.heap.size S wr _ A7 c7 X true r6).mono ?_
          rintro e w' ⟨rfl, rfl⟩
          rw [hwh.out]
          cases wh
          · go_wp2_with (fail)
            go_ret2
            exact RListPost.bad (by rw [HDL.out]; simp) hc6
          · go_wp2_with (fail)
            go_ret2
            have HE' : Hid (decL L = some (ls.map RcV.r)) := by unfold Hid; rw [HDL.out, decide_eq_true (by omega)]; simp
            rw [HE'.out]
            exact ⟨A6, c6, ls, rfl, rfl, own_up hown6 (by omega), fun x hx => own_up (HO6.out x hx) (by omega), hc6⟩
end Go.Proofs.Ytdfkednggjelcaa
