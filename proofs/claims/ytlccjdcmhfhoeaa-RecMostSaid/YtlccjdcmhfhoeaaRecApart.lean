
/-
  RecApart: unlike records have unlike bytes.
-/
import Derived.Test.YtlccjdcmhfhoeaaRecSame
namespace Go.Proofs.Ytlccjdcmhfhoeaa
open Go.RowKit
set_option linter.unusedVariables false

theorem enc_same {a b : Rc} (ha : IsR a) (hb : IsR b) : decide (encR a = encR b) = sameR a b := by
  by_cases h : a = b
  · rw [sameR_iff.2 h, decide_eq_true ((encR_inj ha hb).2 h)]
  · have h1 : sameR a b = false := by
      cases hs : sameR a b with
      | false => rfl
      | true => exact absurd (sameR_iff.1 hs) h
    rw [h1, decide_eq_false (fun he => h ((encR_inj ha hb).1 he))]
theorem same_to (w : World) (A B : Option Addr) (n m c d : Nat) (xs ys : List UInt8) (s : Bool) (hs : decide (xs = ys) = s) (hn : xs.length = n) (hm : ys.length = m) (hx : Rd w 1 A xs.length (cB xs)) (hy : Rd w 1 B ys.length (cB ys)) (hl : xs.length ≤ 140737488355328) :
    Calls Try.prog 15 #[.slice A n c, .slice B m d] w fun e w' => e = .returned (.bool s) ∧ Chg [] w w' := by
  subst hs
  exact same_any w A B n m c d xs ys hn hm hx hy hl
theorem refIsR_to (w : World) (o q : Int) (key : List UInt8) (m c vo : Int) (A : Option Addr) (val : List UInt8) (cp : Nat) (gone : Bool) (ttl : Int) (s : Bool) (hs : isR ⟨o, q, key, m, c, vo, val, gone, ttl⟩ = s) :
    Calls Try.prog 13 #[.agg #[.int .i64 o, .int .i64 q, .string ⟨key.toArray⟩, .int .i64 m, .int .i64 c, .int .i64 vo, .slice A val.length cp, .bool gone, .int .i64 ttl]] w fun e w' =>
      e = .returned (.bool s) ∧ Chg [] w w' := by
  subst hs
  exact refIsR_any w o q key m c vo A val cp gone ttl

set_option maxRecDepth 100000 in
set_option maxHeartbeats 3200000 in
theorem recApart_law (w : World) (x : RcV) (hx : x.In w) (y : RcV) (hy : y.In w) :
    Calls Try.prog 3 #[.agg x.cells.toArray, .agg y.cells.toArray] w fun e w' => e = .returned (.bool true) ∧ Chg [] w w' := by
  rw [x.arr, y.arr]
  obtain ⟨⟨o, q, key, m, c, vo, val, gone, ttl⟩, A, cp⟩ := x
  obtain ⟨⟨o', q', key', m', c', vo', val', gone', ttl'⟩, A', cp'⟩ := y
  obtain ⟨rx, _, _, kx, vx, _⟩ := hx
  obtain ⟨ry, _, _, ky, vy, _⟩ := hy
  simp only at rx ry kx ky vx vy ⊢
  have RX := Lib.hid rx
  have RY := Lib.hid ry
  clear rx ry
  have h1 := ((All.start w).newAt 28 #[.int .i64 o, .int .i64 q, .string ⟨key.toArray⟩, .int .i64 m, .int .i64 c, .int .i64 vo, .slice A val.length cp, .bool gone, .int .i64 ttl] rfl).newAt 28 #[.int .i64 o', .int .i64 q', .string ⟨key'.toArray⟩, .int .i64 m', .int .i64 c', .int .i64 vo', .slice A' val'.length cp', .bool gone', .int .i64 ttl'] (g := w.heap.size + 1) (by simp)
  go_enter Try.func3, Try.ntmps3
  go_wp2_with (fail)
  refine (heavyR_any _ _ _ _ [⟨⟨o, q, key, m, c, vo, val, gone, ttl⟩, A, cp⟩] rfl (Rd.new' (by simp) rfl rfl) (by simp) (by intro z hz; obtain rfl := List.mem_singleton.1 hz; exact ⟨kx, vx⟩)).mono ?_
  rintro e w1 ⟨hv1, rfl, _, hch1⟩
  have h2 := (h1.quiet ((Chg.refl [] _).alloc _)).quiet hch1
  clear h1 hch1
  have hat1 := h2.get 1 rfl
  have hat2 := h2.get 0 rfl
  cases hv1
  · have hz1 := hat1.lt
    have hz2 := hat2.lt
    have a0 := hat1.cell 0
    have a1 := hat1.cell 1
    have a2 := hat1.cell 2
    have a3 := hat1.cell 3
    have a4 := hat1.cell 4
    have a5 := hat1.cell 5
    have a6 := hat1.cell 6
    have a7 := hat1.cell 7
    have a8 := hat1.cell 8
    have d0 := hat2.cell 0
    have d1 := hat2.cell 1
    have d2 := hat2.cell 2
    have d3 := hat2.cell 3
    have d4 := hat2.cell 4
    have d5 := hat2.cell 5
    have d6 := hat2.cell 6
    have d7 := hat2.cell 7
    have d8 := hat2.cell 8
    go_wp2_with (fail)
    refine (heavyR_any _ _ _ _ [⟨⟨o', q', key', m', c', vo', val', gone', ttl'⟩, A', cp'⟩] rfl (Rd.new' (by simp) rfl rfl) (by simp) (by intro z hz; obtain rfl := List.mem_singleton.1 hz; exact ⟨ky, vy⟩)).mono ?_
    rintro e w2 ⟨hv2, rfl, _, hch2⟩
    have h3 := (h2.quiet ((Chg.refl [] _).alloc _)).quiet hch2
    clear h2 hch2 hat1 hat2 a0 a1 a2 a3 a4 a5 a6 a7 a8 d0 d1 d2 d3 d4 d5 d6 d7 d8 hz1 hz2
    have hat1 := h3.get 1 rfl
    have hat2 := h3.get 0 rfl
    cases hv2
    · have hz1 := hat1.lt
      have hz2 := hat2.lt
      have a0 := hat1.cell 0
      have a1 := hat1.cell 1
      have a2 := hat1.cell 2
      have a3 := hat1.cell 3
      have a4 := hat1.cell 4
      have a5 := hat1.cell 5
      have a6 := hat1.cell 6
      have a7 := hat1.cell 7
      have a8 := hat1.cell 8
      have d0 := hat2.cell 0
      have d1 := hat2.cell 1
      have d2 := hat2.cell 2
      have d3 := hat2.cell 3
      have d4 := hat2.cell 4
      have d5 := hat2.cell 5
      have d6 := hat2.cell 6
      have d7 := hat2.cell 7
      have d8 := hat2.cell 8
      have KK : Hid (∀ w', Chg [] w2 w' → w'.cell? ⟨w.heap.size, 0, none⟩ = some (.int .i64 o) ∧ w'.cell? ⟨w.heap.size, 1, none⟩ = some (.int .i64 q) ∧ w'.cell? ⟨w.heap.size, 2, none⟩ = some (.string ⟨key.toArray⟩) ∧ w'.cell? ⟨w.heap.size, 3, none⟩ = some (.int .i64 m) ∧ w'.cell? ⟨w.heap.size, 4, none⟩ = some (.int .i64 c) ∧ w'.cell? ⟨w.heap.size, 5, none⟩ = some (.int .i64 vo) ∧ w'.cell? ⟨w.heap.size, 6, none⟩ = some (.slice A val.length cp) ∧ w'.cell? ⟨w.heap.size, 7, none⟩ = some (.bool gone) ∧ w'.cell? ⟨w.heap.size, 8, none⟩ = some (.int .i64 ttl) ∧ w'.cell? ⟨w.heap.size + 1, 0, none⟩ = some (.int .i64 o') ∧ w'.cell? ⟨w.heap.size + 1, 1, none⟩ = some (.int .i64 q') ∧ w'.cell? ⟨w.heap.size + 1, 2, none⟩ = some (.string ⟨key'.toArray⟩) ∧ w'.cell? ⟨w.heap.size + 1, 3, none⟩ = some (.int .i64 m') ∧ w'.cell? ⟨w.heap.size + 1, 4, none⟩ = some (.int .i64 c') ∧ w'.cell? ⟨w.heap.size + 1, 5, none⟩ = some (.int .i64 vo') ∧ w'.cell? ⟨w.heap.size + 1, 6, none⟩ = some (.slice A' val'.length cp') ∧ w'.cell? ⟨w.heap.size + 1, 7, none⟩ = some (.bool gone') ∧ w'.cell? ⟨w.heap.size + 1, 8, none⟩ = some (.int .i64 ttl')) := fun w' hc => ⟨(hat1.keep hc (by simp)).cell 0, (hat1.keep hc (by simp)).cell 1, (hat1.keep hc (by simp)).cell 2, (hat1.keep hc (by simp)).cell 3, (hat1.keep hc (by simp)).cell 4, (hat1.keep hc (by simp)).cell 5, (hat1.keep hc (by simp)).cell 6, (hat1.keep hc (by simp)).cell 7, (hat1.keep hc (by simp)).cell 8, (hat2.keep hc (by simp)).cell 0, (hat2.keep hc (by simp)).cell 1, (hat2.keep hc (by simp)).cell 2, (hat2.keep hc (by simp)).cell 3, (hat2.keep hc (by simp)).cell 4, (hat2.keep hc (by simp)).cell 5, (hat2.keep hc (by simp)).cell 6, (hat2.keep hc (by simp)).cell 7, (hat2.keep hc (by simp)).cell 8⟩
      have RX2 := Lib.hid (RX.out.keep0 h3.chg)
      have RY2 := Lib.hid (RY.out.keep0 h3.chg)
      obtain ⟨s, hs⟩ : ∃ s, Hid (isR ⟨o, q, key, m, c, vo, val, gone, ttl⟩ = s) := ⟨_, rfl⟩
      obtain ⟨t, ht⟩ : ∃ t, Hid (isR ⟨o', q', key', m', c', vo', val', gone', ttl'⟩ = t) := ⟨_, rfl⟩
      cases s
      · cases t
        · skip
          go_wp2_with (fail)
          refine (recEncode_no _ o q key m c vo A val cp gone ttl hs.out).mono ?_
          rintro e w3 ⟨rfl, hch3⟩
          have h4 := h3.quiet hch3
          clear a0 a1 a2 a3 a4 a5 a6 a7 a8 d0 d1 d2 d3 d4 d5 d6 d7 d8
          obtain ⟨a0, a1, a2, a3, a4, a5, a6, a7, a8, d0, d1, d2, d3, d4, d5, d6, d7, d8⟩ := KK.out w3 hch3
          go_wp2_with (fail)
          refine (recEncode_no _ o' q' key' m' c' vo' A' val' cp' gone' ttl' ht.out).mono ?_
          rintro e w4 ⟨rfl, hch4⟩
          have h5 := h4.quiet hch4
          clear a0 a1 a2 a3 a4 a5 a6 a7 a8 d0 d1 d2 d3 d4 d5 d6 d7 d8
          obtain ⟨a0, a1, a2, a3, a4, a5, a6, a7, a8, d0, d1, d2, d3, d4, d5, d6, d7, d8⟩ := KK.out w4 (hch3.trans hch4 (by simp))
          have KK2 : Hid (∀ w', Chg [] w4 w' → w'.cell? ⟨w.heap.size, 0, none⟩ = some (.int .i64 o) ∧ w'.cell? ⟨w.heap.size, 1, none⟩ = some (.int .i64 q) ∧ w'.cell? ⟨w.heap.size, 2, none⟩ = some (.string ⟨key.toArray⟩) ∧ w'.cell? ⟨w.heap.size, 3, none⟩ = some (.int .i64 m) ∧ w'.cell? ⟨w.heap.size, 4, none⟩ = some (.int .i64 c) ∧ w'.cell? ⟨w.heap.size, 5, none⟩ = some (.int .i64 vo) ∧ w'.cell? ⟨w.heap.size, 6, none⟩ = some (.slice A val.length cp) ∧ w'.cell? ⟨w.heap.size, 7, none⟩ = some (.bool gone) ∧ w'.cell? ⟨w.heap.size, 8, none⟩ = some (.int .i64 ttl) ∧ w'.cell? ⟨w.heap.size + 1, 0, none⟩ = some (.int .i64 o') ∧ w'.cell? ⟨w.heap.size + 1, 1, none⟩ = some (.int .i64 q') ∧ w'.cell? ⟨w.heap.size + 1, 2, none⟩ = some (.string ⟨key'.toArray⟩) ∧ w'.cell? ⟨w.heap.size + 1, 3, none⟩ = some (.int .i64 m') ∧ w'.cell? ⟨w.heap.size + 1, 4, none⟩ = some (.int .i64 c') ∧ w'.cell? ⟨w.heap.size + 1, 5, none⟩ = some (.int .i64 vo') ∧ w'.cell? ⟨w.heap.size + 1, 6, none⟩ = some (.slice A' val'.length cp') ∧ w'.cell? ⟨w.heap.size + 1, 7, none⟩ = some (.bool gone') ∧ w'.cell? ⟨w.heap.size + 1, 8, none⟩ = some (.int .i64 ttl')) := fun w' hc => KK.out w' ((hch3.trans hch4 (by simp)).trans hc (by simp))
          have RX4 := Lib.hid (RX.out.keep0 h5.chg)
          have RY4 := Lib.hid (RY.out.keep0 h5.chg)
          have H5 := Lib.hid h5.chg
          clear h3 h4 h5 hch3 hch4 KK RX2 RY2 hat1 hat2
          go_wp2_with
            (first
              | (go_at_call 13; (with_reducible refine (refIsR_to _ o q key m c vo A val cp gone ttl _ hs.out).mono ?_); rintro e w9 ⟨rfl, hch9⟩; have hch29 : Hid (Chg [] w4 w9) := ((by repeat' (first | (with_reducible assumption) | (with_reducible exact Chg.refl _ _) | (with_reducible refine Chg.alloc ?_ _) | (with_reducible refine Chg.drewN ?_ _) | (with_reducible refine Chg.drew ?_) | (with_reducible refine Chg.strW ?_ _ _) | (with_reducible refine Chg.t0 ?_ (by with_reducible assumption)))) : Chg [] w4 w9); obtain ⟨a0, a1, a2, a3, a4, a5, a6, a7, a8, d0, d1, d2, d3, d4, d5, d6, d7, d8⟩ := KK2.out w9 hch29.out)
              | (go_at_call 13; (with_reducible refine (refIsR_to _ o' q' key' m' c' vo' A' val' cp' gone' ttl' _ ht.out).mono ?_); rintro e w9 ⟨rfl, hch9⟩; have hch29 : Hid (Chg [] w4 w9) := ((by repeat' (first | (with_reducible assumption) | (with_reducible exact Chg.refl _ _) | (with_reducible refine Chg.alloc ?_ _) | (with_reducible refine Chg.drewN ?_ _) | (with_reducible refine Chg.drew ?_) | (with_reducible refine Chg.strW ?_ _ _) | (with_reducible refine Chg.t0 ?_ (by with_reducible assumption)))) : Chg [] w4 w9); obtain ⟨a0, a1, a2, a3, a4, a5, a6, a7, a8, d0, d1, d2, d3, d4, d5, d6, d7, d8⟩ := KK2.out w9 hch29.out)
              | (go_at_call 14; (with_reducible refine (knownR_any _).mono ?_); rintro e w9 ⟨rfl, hch9⟩; have hch29 : Hid (Chg [] w4 w9) := ((by repeat' (first | (with_reducible assumption) | (with_reducible exact Chg.refl _ _) | (with_reducible refine Chg.alloc ?_ _) | (with_reducible refine Chg.drewN ?_ _) | (with_reducible refine Chg.drew ?_) | (with_reducible refine Chg.strW ?_ _ _) | (with_reducible refine Chg.t0 ?_ (by with_reducible assumption)))) : Chg [] w4 w9); obtain ⟨a0, a1, a2, a3, a4, a5, a6, a7, a8, d0, d1, d2, d3, d4, d5, d6, d7, d8⟩ := KK2.out w9 hch29.out))
          all_goals
            go_wp2_with (fail)
            go_ret
            exact ⟨rfl, H5.out.trans (show Chg [] w4 _ from (by repeat' (first | (with_reducible assumption) | (with_reducible exact Chg.refl _ _) | (with_reducible refine Chg.alloc ?_ _) | (with_reducible refine Chg.drewN ?_ _) | (with_reducible refine Chg.drew ?_) | (with_reducible refine Chg.strW ?_ _ _) | (with_reducible refine Chg.t0 ?_ (by with_reducible assumption))))) (by simp)⟩
        · skip
          go_wp2_with (fail)
          refine (recEncode_no _ o q key m c vo A val cp gone ttl hs.out).mono ?_
          rintro e w3 ⟨rfl, hch3⟩
          have h4 := h3.quiet hch3
          clear a0 a1 a2 a3 a4 a5 a6 a7 a8 d0 d1 d2 d3 d4 d5 d6 d7 d8
          obtain ⟨a0, a1, a2, a3, a4, a5, a6, a7, a8, d0, d1, d2, d3, d4, d5, d6, d7, d8⟩ := KK.out w3 hch3
          go_wp2_with (fail)
          refine (recEncode_yes _ o' q' key' m' c' vo' A' val' cp' gone' ttl' ht.out (Rd.k0 RY2.out (by repeat' (first | (with_reducible assumption) | (with_reducible exact Chg.refl _ _) | (with_reducible refine Chg.alloc ?_ _) | (with_reducible refine Chg.drewN ?_ _) | (with_reducible refine Chg.drew ?_) | (with_reducible refine Chg.strW ?_ _ _) | (with_reducible refine Chg.t0 ?_ (by with_reducible assumption)))))).mono ?_
          rintro e w4 ⟨A4, c4, rfl, hown4, hch4⟩
          have h5 := h4.quiet hch4
          clear a0 a1 a2 a3 a4 a5 a6 a7 a8 d0 d1 d2 d3 d4 d5 d6 d7 d8
          obtain ⟨a0, a1, a2, a3, a4, a5, a6, a7, a8, d0, d1, d2, d3, d4, d5, d6, d7, d8⟩ := KK.out w4 (hch3.trans hch4 (by simp))
          have KK2 : Hid (∀ w', Chg [] w4 w' → w'.cell? ⟨w.heap.size, 0, none⟩ = some (.int .i64 o) ∧ w'.cell? ⟨w.heap.size, 1, none⟩ = some (.int .i64 q) ∧ w'.cell? ⟨w.heap.size, 2, none⟩ = some (.string ⟨key.toArray⟩) ∧ w'.cell? ⟨w.heap.size, 3, none⟩ = some (.int .i64 m) ∧ w'.cell? ⟨w.heap.size, 4, none⟩ = some (.int .i64 c) ∧ w'.cell? ⟨w.heap.size, 5, none⟩ = some (.int .i64 vo) ∧ w'.cell? ⟨w.heap.size, 6, none⟩ = some (.slice A val.length cp) ∧ w'.cell? ⟨w.heap.size, 7, none⟩ = some (.bool gone) ∧ w'.cell? ⟨w.heap.size, 8, none⟩ = some (.int .i64 ttl) ∧ w'.cell? ⟨w.heap.size + 1, 0, none⟩ = some (.int .i64 o') ∧ w'.cell? ⟨w.heap.size + 1, 1, none⟩ = some (.int .i64 q') ∧ w'.cell? ⟨w.heap.size + 1, 2, none⟩ = some (.string ⟨key'.toArray⟩) ∧ w'.cell? ⟨w.heap.size + 1, 3, none⟩ = some (.int .i64 m') ∧ w'.cell? ⟨w.heap.size + 1, 4, none⟩ = some (.int .i64 c') ∧ w'.cell? ⟨w.heap.size + 1, 5, none⟩ = some (.int .i64 vo') ∧ w'.cell? ⟨w.heap.size + 1, 6, none⟩ = some (.slice A' val'.length cp') ∧ w'.cell? ⟨w.heap.size + 1, 7, none⟩ = some (.bool gone') ∧ w'.cell? ⟨w.heap.size + 1, 8, none⟩ = some (.int .i64 ttl')) := fun w' hc => KK.out w' ((hch3.trans hch4 (by simp)).trans hc (by simp))
          have RX4 := Lib.hid (RX.out.keep0 h5.chg)
          have RY4 := Lib.hid (RY.out.keep0 h5.chg)
          have H5 := Lib.hid h5.chg
          clear h3 h4 h5 hch3 hch4 KK RX2 RY2 hat1 hat2
          go_wp2_with
            (first
              | (go_at_call 13; (with_reducible refine (refIsR_to _ o q key m c vo A val cp gone ttl _ hs.out).mono ?_); rintro e w9 ⟨rfl, hch9⟩; have hch29 : Hid (Chg [] w4 w9) := ((by repeat' (first | (with_reducible assumption) | (with_reducible exact Chg.refl _ _) | (with_reducible refine Chg.alloc ?_ _) | (with_reducible refine Chg.drewN ?_ _) | (with_reducible refine Chg.drew ?_) | (with_reducible refine Chg.strW ?_ _ _) | (with_reducible refine Chg.t0 ?_ (by with_reducible assumption)))) : Chg [] w4 w9); obtain ⟨a0, a1, a2, a3, a4, a5, a6, a7, a8, d0, d1, d2, d3, d4, d5, d6, d7, d8⟩ := KK2.out w9 hch29.out)
              | (go_at_call 13; (with_reducible refine (refIsR_to _ o' q' key' m' c' vo' A' val' cp' gone' ttl' _ ht.out).mono ?_); rintro e w9 ⟨rfl, hch9⟩; have hch29 : Hid (Chg [] w4 w9) := ((by repeat' (first | (with_reducible assumption) | (with_reducible exact Chg.refl _ _) | (with_reducible refine Chg.alloc ?_ _) | (with_reducible refine Chg.drewN ?_ _) | (with_reducible refine Chg.drew ?_) | (with_reducible refine Chg.strW ?_ _ _) | (with_reducible refine Chg.t0 ?_ (by with_reducible assumption)))) : Chg [] w4 w9); obtain ⟨a0, a1, a2, a3, a4, a5, a6, a7, a8, d0, d1, d2, d3, d4, d5, d6, d7, d8⟩ := KK2.out w9 hch29.out)
              | (go_at_call 14; (with_reducible refine (knownR_any _).mono ?_); rintro e w9 ⟨rfl, hch9⟩; have hch29 : Hid (Chg [] w4 w9) := ((by repeat' (first | (with_reducible assumption) | (with_reducible exact Chg.refl _ _) | (with_reducible refine Chg.alloc ?_ _) | (with_reducible refine Chg.drewN ?_ _) | (with_reducible refine Chg.drew ?_) | (with_reducible refine Chg.strW ?_ _ _) | (with_reducible refine Chg.t0 ?_ (by with_reducible assumption)))) : Chg [] w4 w9); obtain ⟨a0, a1, a2, a3, a4, a5, a6, a7, a8, d0, d1, d2, d3, d4, d5, d6, d7, d8⟩ := KK2.out w9 hch29.out))
          all_goals
            go_wp2_with (fail)
            go_ret
            exact ⟨rfl, H5.out.trans (show Chg [] w4 _ from (by repeat' (first | (with_reducible assumption) | (with_reducible exact Chg.refl _ _) | (with_reducible refine Chg.alloc ?_ _) | (with_reducible refine Chg.drewN ?_ _) | (with_reducible refine Chg.drew ?_) | (with_reducible refine Chg.strW ?_ _ _) | (with_reducible refine Chg.t0 ?_ (by with_reducible assumption))))) (by simp)⟩
      · cases t
        · skip
          go_wp2_with (fail)
          refine (recEncode_yes _ o q key m c vo A val cp gone ttl hs.out (Rd.k0 RX2.out (by repeat' (first | (with_reducible assumption) | (with_reducible exact Chg.refl _ _) | (with_reducible refine Chg.alloc ?_ _) | (with_reducible refine Chg.drewN ?_ _) | (with_reducible refine Chg.drew ?_) | (with_reducible refine Chg.strW ?_ _ _) | (with_reducible refine Chg.t0 ?_ (by with_reducible assumption)))))).mono ?_
          rintro e w3 ⟨A3, c3, rfl, hown3, hch3⟩
          have h4 := h3.quiet hch3
          clear a0 a1 a2 a3 a4 a5 a6 a7 a8 d0 d1 d2 d3 d4 d5 d6 d7 d8
          obtain ⟨a0, a1, a2, a3, a4, a5, a6, a7, a8, d0, d1, d2, d3, d4, d5, d6, d7, d8⟩ := KK.out w3 hch3
          have hown3 := Rd.of_own hown3
          go_wp2_with (fail)
          refine (recEncode_no _ o' q' key' m' c' vo' A' val' cp' gone' ttl' ht.out).mono ?_
          rintro e w4 ⟨rfl, hch4⟩
          have h5 := h4.quiet hch4
          clear a0 a1 a2 a3 a4 a5 a6 a7 a8 d0 d1 d2 d3 d4 d5 d6 d7 d8
          obtain ⟨a0, a1, a2, a3, a4, a5, a6, a7, a8, d0, d1, d2, d3, d4, d5, d6, d7, d8⟩ := KK.out w4 (hch3.trans hch4 (by simp))
          have KK2 : Hid (∀ w', Chg [] w4 w' → w'.cell? ⟨w.heap.size, 0, none⟩ = some (.int .i64 o) ∧ w'.cell? ⟨w.heap.size, 1, none⟩ = some (.int .i64 q) ∧ w'.cell? ⟨w.heap.size, 2, none⟩ = some (.string ⟨key.toArray⟩) ∧ w'.cell? ⟨w.heap.size, 3, none⟩ = some (.int .i64 m) ∧ w'.cell? ⟨w.heap.size, 4, none⟩ = some (.int .i64 c) ∧ w'.cell? ⟨w.heap.size, 5, none⟩ = some (.int .i64 vo) ∧ w'.cell? ⟨w.heap.size, 6, none⟩ = some (.slice A val.length cp) ∧ w'.cell? ⟨w.heap.size, 7, none⟩ = some (.bool gone) ∧ w'.cell? ⟨w.heap.size, 8, none⟩ = some (.int .i64 ttl) ∧ w'.cell? ⟨w.heap.size + 1, 0, none⟩ = some (.int .i64 o') ∧ w'.cell? ⟨w.heap.size + 1, 1, none⟩ = some (.int .i64 q') ∧ w'.cell? ⟨w.heap.size + 1, 2, none⟩ = some (.string ⟨key'.toArray⟩) ∧ w'.cell? ⟨w.heap.size + 1, 3, none⟩ = some (.int .i64 m') ∧ w'.cell? ⟨w.heap.size + 1, 4, none⟩ = some (.int .i64 c') ∧ w'.cell? ⟨w.heap.size + 1, 5, none⟩ = some (.int .i64 vo') ∧ w'.cell? ⟨w.heap.size + 1, 6, none⟩ = some (.slice A' val'.length cp') ∧ w'.cell? ⟨w.heap.size + 1, 7, none⟩ = some (.bool gone') ∧ w'.cell? ⟨w.heap.size + 1, 8, none⟩ = some (.int .i64 ttl')) := fun w' hc => KK.out w' ((hch3.trans hch4 (by simp)).trans hc (by simp))
          have RX4 := Lib.hid (RX.out.keep0 h5.chg)
          have RY4 := Lib.hid (RY.out.keep0 h5.chg)
          have H5 := Lib.hid h5.chg
          clear h3 h4 h5 hch3 hch4 KK RX2 RY2 hat1 hat2
          go_wp2_with
            (first
              | (go_at_call 13; (with_reducible refine (refIsR_to _ o q key m c vo A val cp gone ttl _ hs.out).mono ?_); rintro e w9 ⟨rfl, hch9⟩; have hch29 : Hid (Chg [] w4 w9) := ((by repeat' (first | (with_reducible assumption) | (with_reducible exact Chg.refl _ _) | (with_reducible refine Chg.alloc ?_ _) | (with_reducible refine Chg.drewN ?_ _) | (with_reducible refine Chg.drew ?_) | (with_reducible refine Chg.strW ?_ _ _) | (with_reducible refine Chg.t0 ?_ (by with_reducible assumption)))) : Chg [] w4 w9); obtain ⟨a0, a1, a2, a3, a4, a5, a6, a7, a8, d0, d1, d2, d3, d4, d5, d6, d7, d8⟩ := KK2.out w9 hch29.out)
              | (go_at_call 13; (with_reducible refine (refIsR_to _ o' q' key' m' c' vo' A' val' cp' gone' ttl' _ ht.out).mono ?_); rintro e w9 ⟨rfl, hch9⟩; have hch29 : Hid (Chg [] w4 w9) := ((by repeat' (first | (with_reducible assumption) | (with_reducible exact Chg.refl _ _) | (with_reducible refine Chg.alloc ?_ _) | (with_reducible refine Chg.drewN ?_ _) | (with_reducible refine Chg.drew ?_) | (with_reducible refine Chg.strW ?_ _ _) | (with_reducible refine Chg.t0 ?_ (by with_reducible assumption)))) : Chg [] w4 w9); obtain ⟨a0, a1, a2, a3, a4, a5, a6, a7, a8, d0, d1, d2, d3, d4, d5, d6, d7, d8⟩ := KK2.out w9 hch29.out)
              | (go_at_call 14; (with_reducible refine (knownR_any _).mono ?_); rintro e w9 ⟨rfl, hch9⟩; have hch29 : Hid (Chg [] w4 w9) := ((by repeat' (first | (with_reducible assumption) | (with_reducible exact Chg.refl _ _) | (with_reducible refine Chg.alloc ?_ _) | (with_reducible refine Chg.drewN ?_ _) | (with_reducible refine Chg.drew ?_) | (with_reducible refine Chg.strW ?_ _ _) | (with_reducible refine Chg.t0 ?_ (by with_reducible assumption)))) : Chg [] w4 w9); obtain ⟨a0, a1, a2, a3, a4, a5, a6, a7, a8, d0, d1, d2, d3, d4, d5, d6, d7, d8⟩ := KK2.out w9 hch29.out))
          all_goals
            go_wp2_with (fail)
            go_ret
            exact ⟨rfl, H5.out.trans (show Chg [] w4 _ from (by repeat' (first | (with_reducible assumption) | (with_reducible exact Chg.refl _ _) | (with_reducible refine Chg.alloc ?_ _) | (with_reducible refine Chg.drewN ?_ _) | (with_reducible refine Chg.drew ?_) | (with_reducible refine Chg.strW ?_ _ _) | (with_reducible refine Chg.t0 ?_ (by with_reducible assumption))))) (by simp)⟩
        · skip
          go_wp2_with (fail)
          refine (recEncode_yes _ o q key m c vo A val cp gone ttl hs.out (Rd.k0 RX2.out (by repeat' (first | (with_reducible assumption) | (with_reducible exact Chg.refl _ _) | (with_reducible refine Chg.alloc ?_ _) | (with_reducible refine Chg.drewN ?_ _) | (with_reducible refine Chg.drew ?_) | (with_reducible refine Chg.strW ?_ _ _) | (with_reducible refine Chg.t0 ?_ (by with_reducible assumption)))))).mono ?_
          rintro e w3 ⟨A3, c3, rfl, hown3, hch3⟩
          have h4 := h3.quiet hch3
          clear a0 a1 a2 a3 a4 a5 a6 a7 a8 d0 d1 d2 d3 d4 d5 d6 d7 d8
          obtain ⟨a0, a1, a2, a3, a4, a5, a6, a7, a8, d0, d1, d2, d3, d4, d5, d6, d7, d8⟩ := KK.out w3 hch3
          have hown3 := Rd.of_own hown3
          go_wp2_with (fail)
          refine (recEncode_yes _ o' q' key' m' c' vo' A' val' cp' gone' ttl' ht.out (Rd.k0 RY2.out (by repeat' (first | (with_reducible assumption) | (with_reducible exact Chg.refl _ _) | (with_reducible refine Chg.alloc ?_ _) | (with_reducible refine Chg.drewN ?_ _) | (with_reducible refine Chg.drew ?_) | (with_reducible refine Chg.strW ?_ _ _) | (with_reducible refine Chg.t0 ?_ (by with_reducible assumption)))))).mono ?_
          rintro e w4 ⟨A4, c4, rfl, hown4, hch4⟩
          have h5 := h4.quiet hch4
          clear a0 a1 a2 a3 a4 a5 a6 a7 a8 d0 d1 d2 d3 d4 d5 d6 d7 d8
          obtain ⟨a0, a1, a2, a3, a4, a5, a6, a7, a8, d0, d1, d2, d3, d4, d5, d6, d7, d8⟩ := KK.out w4 (hch3.trans hch4 (by simp))
          have KK2 : Hid (∀ w', Chg [] w4 w' → w'.cell? ⟨w.heap.size, 0, none⟩ = some (.int .i64 o) ∧ w'.cell? ⟨w.heap.size, 1, none⟩ = some (.int .i64 q) ∧ w'.cell? ⟨w.heap.size, 2, none⟩ = some (.string ⟨key.toArray⟩) ∧ w'.cell? ⟨w.heap.size, 3, none⟩ = some (.int .i64 m) ∧ w'.cell? ⟨w.heap.size, 4, none⟩ = some (.int .i64 c) ∧ w'.cell? ⟨w.heap.size, 5, none⟩ = some (.int .i64 vo) ∧ w'.cell? ⟨w.heap.size, 6, none⟩ = some (.slice A val.length cp) ∧ w'.cell? ⟨w.heap.size, 7, none⟩ = some (.bool gone) ∧ w'.cell? ⟨w.heap.size, 8, none⟩ = some (.int .i64 ttl) ∧ w'.cell? ⟨w.heap.size + 1, 0, none⟩ = some (.int .i64 o') ∧ w'.cell? ⟨w.heap.size + 1, 1, none⟩ = some (.int .i64 q') ∧ w'.cell? ⟨w.heap.size + 1, 2, none⟩ = some (.string ⟨key'.toArray⟩) ∧ w'.cell? ⟨w.heap.size + 1, 3, none⟩ = some (.int .i64 m') ∧ w'.cell? ⟨w.heap.size + 1, 4, none⟩ = some (.int .i64 c') ∧ w'.cell? ⟨w.heap.size + 1, 5, none⟩ = some (.int .i64 vo') ∧ w'.cell? ⟨w.heap.size + 1, 6, none⟩ = some (.slice A' val'.length cp') ∧ w'.cell? ⟨w.heap.size + 1, 7, none⟩ = some (.bool gone') ∧ w'.cell? ⟨w.heap.size + 1, 8, none⟩ = some (.int .i64 ttl')) := fun w' hc => KK.out w' ((hch3.trans hch4 (by simp)).trans hc (by simp))
          have RX4 := Lib.hid (RX.out.keep0 h5.chg)
          have RY4 := Lib.hid (RY.out.keep0 h5.chg)
          have H5 := Lib.hid h5.chg
          have R3 := Lib.hid (hown3.keep0 hch4)
          have R4 := Lib.hid (Rd.of_own hown4)
          obtain ⟨u, hu⟩ : ∃ u, Hid (sameR ⟨o, q, key, m, c, vo, val, gone, ttl⟩ ⟨o', q', key', m', c', vo', val', gone', ttl'⟩ = u) := ⟨_, rfl⟩
          have hss : Hid (decide (encR ⟨o, q, key, m, c, vo, val, gone, ttl⟩ = encR ⟨o', q', key', m', c', vo', val', gone', ttl'⟩) = u) := (enc_same (isR_iff.1 hs.out) (isR_iff.1 ht.out)).trans hu.out
          have hl1 : (encR ⟨o, q, key, m, c, vo, val, gone, ttl⟩).length ≤ 1160 := encR_small (isR_iff.1 hs.out)
          obtain ⟨E1, hE1⟩ : ∃ E, Hid (encR ⟨o, q, key, m, c, vo, val, gone, ttl⟩ = E) := ⟨_, rfl⟩
          obtain ⟨E2, hE2⟩ : ∃ E, Hid (encR ⟨o', q', key', m', c', vo', val', gone', ttl'⟩ = E) := ⟨_, rfl⟩
          rw [hE1.out, hE2.out] at hss
          rw [hE1.out] at R3 hl1
          rw [hE2.out] at R4
          rw [hE1.out, hE2.out]
          clear hown3 hown4 hE1 hE2 h3 h4 h5 hch3 hch4 KK RX2 RY2 hat1 hat2
          cases u
          all_goals
            go_wp2_with (fail)
            go_region_held3 (fun w' => w'.cell? ⟨w.heap.size, 0, none⟩ = some (.int .i64 o) ∧ w'.cell? ⟨w.heap.size, 1, none⟩ = some (.int .i64 q) ∧ w'.cell? ⟨w.heap.size, 2, none⟩ = some (.string ⟨key.toArray⟩) ∧ w'.cell? ⟨w.heap.size, 3, none⟩ = some (.int .i64 m) ∧ w'.cell? ⟨w.heap.size, 4, none⟩ = some (.int .i64 c) ∧ w'.cell? ⟨w.heap.size, 5, none⟩ = some (.int .i64 vo) ∧ w'.cell? ⟨w.heap.size, 6, none⟩ = some (.slice A val.length cp) ∧ w'.cell? ⟨w.heap.size, 7, none⟩ = some (.bool gone) ∧ w'.cell? ⟨w.heap.size, 8, none⟩ = some (.int .i64 ttl) ∧ w'.cell? ⟨w.heap.size + 1, 0, none⟩ = some (.int .i64 o') ∧ w'.cell? ⟨w.heap.size + 1, 1, none⟩ = some (.int .i64 q') ∧ w'.cell? ⟨w.heap.size + 1, 2, none⟩ = some (.string ⟨key'.toArray⟩) ∧ w'.cell? ⟨w.heap.size + 1, 3, none⟩ = some (.int .i64 m') ∧ w'.cell? ⟨w.heap.size + 1, 4, none⟩ = some (.int .i64 c') ∧ w'.cell? ⟨w.heap.size + 1, 5, none⟩ = some (.int .i64 vo') ∧ w'.cell? ⟨w.heap.size + 1, 6, none⟩ = some (.slice A' val'.length cp') ∧ w'.cell? ⟨w.heap.size + 1, 7, none⟩ = some (.bool gone') ∧ w'.cell? ⟨w.heap.size + 1, 8, none⟩ = some (.int .i64 ttl')) (first | go_keep | exact KK2.out _ (by repeat' (first | (with_reducible assumption) | (with_reducible exact Chg.refl _ _) | (with_reducible refine Chg.alloc ?_ _) | (with_reducible refine Chg.drewN ?_ _) | (with_reducible refine Chg.drew ?_) | (with_reducible refine Chg.strW ?_ _ _) | (with_reducible refine Chg.t0 ?_ (by with_reducible assumption)))) | fail)
              (first
                | (go_simp; go_at_call 15; (with_reducible refine (same_to _ _ _ _ _ _ _ E1 E2 _ hss.out rfl rfl (Rd.k0 R3.out (by repeat' (first | (with_reducible assumption) | (with_reducible exact Chg.refl _ _) | (with_reducible refine Chg.alloc ?_ _) | (with_reducible refine Chg.drewN ?_ _) | (with_reducible refine Chg.drew ?_) | (with_reducible refine Chg.strW ?_ _ _) | (with_reducible refine Chg.t0 ?_ (by with_reducible assumption))))) (Rd.k0 R4.out (by repeat' (first | (with_reducible assumption) | (with_reducible exact Chg.refl _ _) | (with_reducible refine Chg.alloc ?_ _) | (with_reducible refine Chg.drewN ?_ _) | (with_reducible refine Chg.drew ?_) | (with_reducible refine Chg.strW ?_ _ _) | (with_reducible refine Chg.t0 ?_ (by with_reducible assumption))))) (by omega)).mono ?_); rintro e w9 ⟨rfl, hch9⟩; have hch29 : Hid (Chg [] w4 w9) := ((by repeat' (first | (with_reducible assumption) | (with_reducible exact Chg.refl _ _) | (with_reducible refine Chg.alloc ?_ _) | (with_reducible refine Chg.drewN ?_ _) | (with_reducible refine Chg.drew ?_) | (with_reducible refine Chg.strW ?_ _ _) | (with_reducible refine Chg.t0 ?_ (by with_reducible assumption)))) : Chg [] w4 w9); obtain ⟨a0, a1, a2, a3, a4, a5, a6, a7, a8, d0, d1, d2, d3, d4, d5, d6, d7, d8⟩ := KK2.out w9 hch29.out)
                | (go_simp; go_at_call 16; (with_reducible refine (refSame_to _ o q key m c vo A val cp gone ttl o' q' key' m' c' vo' A' val' cp' gone' ttl' _ hu.out (Rd.k0 RX4.out (by repeat' (first | (with_reducible assumption) | (with_reducible exact Chg.refl _ _) | (with_reducible refine Chg.alloc ?_ _) | (with_reducible refine Chg.drewN ?_ _) | (with_reducible refine Chg.drew ?_) | (with_reducible refine Chg.strW ?_ _ _) | (with_reducible refine Chg.t0 ?_ (by with_reducible assumption))))) (Rd.k0 RY4.out (by repeat' (first | (with_reducible assumption) | (with_reducible exact Chg.refl _ _) | (with_reducible refine Chg.alloc ?_ _) | (with_reducible refine Chg.drewN ?_ _) | (with_reducible refine Chg.drew ?_) | (with_reducible refine Chg.strW ?_ _ _) | (with_reducible refine Chg.t0 ?_ (by with_reducible assumption)))))).mono ?_); rintro e w9 ⟨rfl, hch9⟩; have hch29 : Hid (Chg [] w4 w9) := ((by repeat' (first | (with_reducible assumption) | (with_reducible exact Chg.refl _ _) | (with_reducible refine Chg.alloc ?_ _) | (with_reducible refine Chg.drewN ?_ _) | (with_reducible refine Chg.drew ?_) | (with_reducible refine Chg.strW ?_ _ _) | (with_reducible refine Chg.t0 ?_ (by with_reducible assumption)))) : Chg [] w4 w9); obtain ⟨a0, a1, a2, a3, a4, a5, a6, a7, a8, d0, d1, d2, d3, d4, d5, d6, d7, d8⟩ := KK2.out w9 hch29.out)
                | (go_simp; go_at_call 14; (with_reducible refine (knownR_any _).mono ?_); rintro e w9 ⟨rfl, hch9⟩; have hch29 : Hid (Chg [] w4 w9) := ((by repeat' (first | (with_reducible assumption) | (with_reducible exact Chg.refl _ _) | (with_reducible refine Chg.alloc ?_ _) | (with_reducible refine Chg.drewN ?_ _) | (with_reducible refine Chg.drew ?_) | (with_reducible refine Chg.strW ?_ _ _) | (with_reducible refine Chg.t0 ?_ (by with_reducible assumption)))) : Chg [] w4 w9); obtain ⟨a0, a1, a2, a3, a4, a5, a6, a7, a8, d0, d1, d2, d3, d4, d5, d6, d7, d8⟩ := KK2.out w9 hch29.out))
            all_goals
              go_wp2_with (fail)
              go_ret
              exact ⟨rfl, H5.out.trans (show Chg [] w4 _ from (by repeat' (first | (with_reducible assumption) | (with_reducible exact Chg.refl _ _) | (with_reducible refine Chg.alloc ?_ _) | (with_reducible refine Chg.drewN ?_ _) | (with_reducible refine Chg.drew ?_) | (with_reducible refine Chg.strW ?_ _ _) | (with_reducible refine Chg.t0 ?_ (by with_reducible assumption))))) (by simp)⟩
    · go_wp2_with (fail)
      go_ret
      exact ⟨rfl, h3.chg⟩
  · go_wp2_with (fail)
    go_ret
    exact ⟨rfl, h2.chg⟩
end Go.Proofs.Ytlccjdcmhfhoeaa
