
/-
  RecSame: whether two records are one.
-/
import Derived.Test.YtlccjdcmhfhoeaaRecL
import Derived.Deep.RegionHeld3
namespace Go.Proofs.Ytlccjdcmhfhoeaa
open Go.RowKit
set_option linter.unusedVariables false

theorem RcV.arr (x : RcV) : x.cells.toArray = #[.int .i64 x.r.o, .int .i64 x.r.q, .string ⟨x.r.key.toArray⟩, .int .i64 x.r.m, .int .i64 x.r.c, .int .i64 x.r.vo, .slice x.A x.r.val.length x.cp, .bool x.r.gone, .int .i64 x.r.ttl] := rfl

theorem recSame_to (w : World) (o q : Int) (key : List UInt8) (m c vo : Int) (A : Option Addr) (val : List UInt8) (cp : Nat) (gone : Bool) (ttl : Int)
    (o' q' : Int) (key' : List UInt8) (m' c' vo' : Int) (A' : Option Addr) (val' : List UInt8) (cp' : Nat) (gone' : Bool) (ttl' : Int) (s : Bool) (hs : sameR ⟨o, q, key, m, c, vo, val, gone, ttl⟩ ⟨o', q', key', m', c', vo', val', gone', ttl'⟩ = s) (hx : Rd w 1 A val.length (cB val)) (hy : Rd w 1 A' val'.length (cB val')) :
    Calls Try.prog 17 #[.agg #[.int .i64 o, .int .i64 q, .string ⟨key.toArray⟩, .int .i64 m, .int .i64 c, .int .i64 vo, .slice A val.length cp, .bool gone, .int .i64 ttl],
        .agg #[.int .i64 o', .int .i64 q', .string ⟨key'.toArray⟩, .int .i64 m', .int .i64 c', .int .i64 vo', .slice A' val'.length cp', .bool gone', .int .i64 ttl']] w fun e w' => e = .returned (.bool s) ∧ Chg [] w w' := by
  subst hs
  exact recSame_any w o q key m c vo A val cp gone ttl o' q' key' m' c' vo' A' val' cp' gone' ttl' hx hy
theorem refSame_to (w : World) (o q : Int) (key : List UInt8) (m c vo : Int) (A : Option Addr) (val : List UInt8) (cp : Nat) (gone : Bool) (ttl : Int)
    (o' q' : Int) (key' : List UInt8) (m' c' vo' : Int) (A' : Option Addr) (val' : List UInt8) (cp' : Nat) (gone' : Bool) (ttl' : Int) (s : Bool) (hs : sameR ⟨o, q, key, m, c, vo, val, gone, ttl⟩ ⟨o', q', key', m', c', vo', val', gone', ttl'⟩ = s) (hx : Rd w 1 A val.length (cB val)) (hy : Rd w 1 A' val'.length (cB val')) :
    Calls Try.prog 16 #[.agg #[.int .i64 o, .int .i64 q, .string ⟨key.toArray⟩, .int .i64 m, .int .i64 c, .int .i64 vo, .slice A val.length cp, .bool gone, .int .i64 ttl],
        .agg #[.int .i64 o', .int .i64 q', .string ⟨key'.toArray⟩, .int .i64 m', .int .i64 c', .int .i64 vo', .slice A' val'.length cp', .bool gone', .int .i64 ttl']] w fun e w' => e = .returned (.bool s) ∧ Chg [] w w' := by
  subst hs
  exact refSame_any w o q key m c vo A val cp gone ttl o' q' key' m' c' vo' A' val' cp' gone' ttl' hx hy

set_option maxRecDepth 100000 in
set_option maxHeartbeats 3200000 in
theorem recSame_law (w : World) (x : RcV) (hx : x.In w) (y : RcV) (hy : y.In w) :
    Calls Try.prog 4 #[.agg x.cells.toArray, .agg y.cells.toArray] w fun e w' => e = .returned (.bool true) ∧ Chg [] w w' := by
  rw [x.arr, y.arr]
  obtain ⟨⟨o, q, key, m, c, vo, val, gone, ttl⟩, A, cp⟩ := x
  obtain ⟨⟨o', q', key', m', c', vo', val', gone', ttl'⟩, A', cp'⟩ := y
  obtain ⟨rx, _, _, kx, vx, _⟩ := hx
  obtain ⟨ry, _, _, ky, vy, _⟩ := hy
  simp only at rx ry kx ky vx vy ⊢
  have RX := Lib.hid rx
  have RY := Lib.hid ry
  clear rx ry
  have h1 := ((All.start w).newAt 28 #[.int .i64 o, .int .i64 q, .string ⟨key.toArray⟩, .int .i64 m, .int .i64 c, .int .i64 vo, .slice A val.length cp, .bool gone, .int .i64 ttl] rfl).newAt 28 #[.int .i64 o', .int .i64 q', .string ⟨key'.toArray⟩, .int .i64 m', .int .i64 c', .int .i64 vo', .slice A' val'.length cp', .bool gone', .int .i64 ttl'] (g := w.heap.size + 1) (by simp)
  go_enter Try.func4, Try.ntmps4
  go_wp2_with (fail)
  refine (heavyR_any _ _ _ _ [⟨⟨o, q, key, m, c, vo, val, gone, ttl⟩, A, cp⟩] rfl (Rd.new' (by simp) rfl rfl) (by simp) (by intro z hz; obtain rfl := List.mem_singleton.1 hz; exact ⟨kx, vx⟩)).mono ?_
  rintro e w1 ⟨hv1, rfl, _, hch1⟩
  have h2 := (h1.quiet ((Chg.refl [] _).alloc _)).quiet hch1
  clear h1 hch1
  have hat1 := h2.get 1 rfl
  have hat2 := h2.get 0 rfl
  cases hv1
  · have hz1 := hat1.lt
    have hz2 := hat2.lt
    have a0 := hat1.cell 0
    have a1 := hat1.cell 1
    have a2 := hat1.cell 2
    have a3 := hat1.cell 3
    have a4 := hat1.cell 4
    have a5 := hat1.cell 5
    have a6 := hat1.cell 6
    have a7 := hat1.cell 7
    have a8 := hat1.cell 8
    have d0 := hat2.cell 0
    have d1 := hat2.cell 1
    have d2 := hat2.cell 2
    have d3 := hat2.cell 3
    have d4 := hat2.cell 4
    have d5 := hat2.cell 5
    have d6 := hat2.cell 6
    have d7 := hat2.cell 7
    have d8 := hat2.cell 8
    go_wp2_with (fail)
    refine (heavyR_any _ _ _ _ [⟨⟨o', q', key', m', c', vo', val', gone', ttl'⟩, A', cp'⟩] rfl (Rd.new' (by simp) rfl rfl) (by simp) (by intro z hz; obtain rfl := List.mem_singleton.1 hz; exact ⟨ky, vy⟩)).mono ?_
    rintro e w2 ⟨hv2, rfl, _, hch2⟩
    have h3 := (h2.quiet ((Chg.refl [] _).alloc _)).quiet hch2
    clear h2 hch2 hat1 hat2 a0 a1 a2 a3 a4 a5 a6 a7 a8 d0 d1 d2 d3 d4 d5 d6 d7 d8 hz1 hz2
    have hat1 := h3.get 1 rfl
    have hat2 := h3.get 0 rfl
    cases hv2
    · have hz1 := hat1.lt
      have hz2 := hat2.lt
      have a0 := hat1.cell 0
      have a1 := hat1.cell 1
      have a2 := hat1.cell 2
      have a3 := hat1.cell 3
      have a4 := hat1.cell 4
      have a5 := hat1.cell 5
      have a6 := hat1.cell 6
      have a7 := hat1.cell 7
      have a8 := hat1.cell 8
      have d0 := hat2.cell 0
      have d1 := hat2.cell 1
      have d2 := hat2.cell 2
      have d3 := hat2.cell 3
      have d4 := hat2.cell 4
      have d5 := hat2.cell 5
      have d6 := hat2.cell 6
      have d7 := hat2.cell 7
      have d8 := hat2.cell 8
      have KK : Hid (∀ w', Chg [] w2 w' → w'.cell? ⟨w.heap.size, 0, none⟩ = some (.int .i64 o) ∧ w'.cell? ⟨w.heap.size, 1, none⟩ = some (.int .i64 q) ∧ w'.cell? ⟨w.heap.size, 2, none⟩ = some (.string ⟨key.toArray⟩) ∧ w'.cell? ⟨w.heap.size, 3, none⟩ = some (.int .i64 m) ∧ w'.cell? ⟨w.heap.size, 4, none⟩ = some (.int .i64 c) ∧ w'.cell? ⟨w.heap.size, 5, none⟩ = some (.int .i64 vo) ∧ w'.cell? ⟨w.heap.size, 6, none⟩ = some (.slice A val.length cp) ∧ w'.cell? ⟨w.heap.size, 7, none⟩ = some (.bool gone) ∧ w'.cell? ⟨w.heap.size, 8, none⟩ = some (.int .i64 ttl) ∧ w'.cell? ⟨w.heap.size + 1, 0, none⟩ = some (.int .i64 o') ∧ w'.cell? ⟨w.heap.size + 1, 1, none⟩ = some (.int .i64 q') ∧ w'.cell? ⟨w.heap.size + 1, 2, none⟩ = some (.string ⟨key'.toArray⟩) ∧ w'.cell? ⟨w.heap.size + 1, 3, none⟩ = some (.int .i64 m') ∧ w'.cell? ⟨w.heap.size + 1, 4, none⟩ = some (.int .i64 c') ∧ w'.cell? ⟨w.heap.size + 1, 5, none⟩ = some (.int .i64 vo') ∧ w'.cell? ⟨w.heap.size + 1, 6, none⟩ = some (.slice A' val'.length cp') ∧ w'.cell? ⟨w.heap.size + 1, 7, none⟩ = some (.bool gone') ∧ w'.cell? ⟨w.heap.size + 1, 8, none⟩ = some (.int .i64 ttl')) := fun w' hc => ⟨(hat1.keep hc (by simp)).cell 0, (hat1.keep hc (by simp)).cell 1, (hat1.keep hc (by simp)).cell 2, (hat1.keep hc (by simp)).cell 3, (hat1.keep hc (by simp)).cell 4, (hat1.keep hc (by simp)).cell 5, (hat1.keep hc (by simp)).cell 6, (hat1.keep hc (by simp)).cell 7, (hat1.keep hc (by simp)).cell 8, (hat2.keep hc (by simp)).cell 0, (hat2.keep hc (by simp)).cell 1, (hat2.keep hc (by simp)).cell 2, (hat2.keep hc (by simp)).cell 3, (hat2.keep hc (by simp)).cell 4, (hat2.keep hc (by simp)).cell 5, (hat2.keep hc (by simp)).cell 6, (hat2.keep hc (by simp)).cell 7, (hat2.keep hc (by simp)).cell 8⟩
      have RX2 := Lib.hid (RX.out.keep0 h3.chg)
      have RY2 := Lib.hid (RY.out.keep0 h3.chg)
      have H3 := Lib.hid h3.chg
      clear h3 hat1 hat2
      obtain ⟨s, hs⟩ : ∃ s, Hid (sameR ⟨o, q, key, m, c, vo, val, gone, ttl⟩ ⟨o', q', key', m', c', vo', val', gone', ttl'⟩ = s) := ⟨_, rfl⟩
      cases s
      all_goals
        go_wp2_with (fail)
        go_region_held3 (fun w' => w'.cell? ⟨w.heap.size, 0, none⟩ = some (.int .i64 o) ∧ w'.cell? ⟨w.heap.size, 1, none⟩ = some (.int .i64 q) ∧ w'.cell? ⟨w.heap.size, 2, none⟩ = some (.string ⟨key.toArray⟩) ∧ w'.cell? ⟨w.heap.size, 3, none⟩ = some (.int .i64 m) ∧ w'.cell? ⟨w.heap.size, 4, none⟩ = some (.int .i64 c) ∧ w'.cell? ⟨w.heap.size, 5, none⟩ = some (.int .i64 vo) ∧ w'.cell? ⟨w.heap.size, 6, none⟩ = some (.slice A val.length cp) ∧ w'.cell? ⟨w.heap.size, 7, none⟩ = some (.bool gone) ∧ w'.cell? ⟨w.heap.size, 8, none⟩ = some (.int .i64 ttl) ∧ w'.cell? ⟨w.heap.size + 1, 0, none⟩ = some (.int .i64 o') ∧ w'.cell? ⟨w.heap.size + 1, 1, none⟩ = some (.int .i64 q') ∧ w'.cell? ⟨w.heap.size + 1, 2, none⟩ = some (.string ⟨key'.toArray⟩) ∧ w'.cell? ⟨w.heap.size + 1, 3, none⟩ = some (.int .i64 m') ∧ w'.cell? ⟨w.heap.size + 1, 4, none⟩ = some (.int .i64 c') ∧ w'.cell? ⟨w.heap.size + 1, 5, none⟩ = some (.int .i64 vo') ∧ w'.cell? ⟨w.heap.size + 1, 6, none⟩ = some (.slice A' val'.length cp') ∧ w'.cell? ⟨w.heap.size + 1, 7, none⟩ = some (.bool gone') ∧ w'.cell? ⟨w.heap.size + 1, 8, none⟩ = some (.int .i64 ttl')) (first | go_keep | exact KK.out _ (by repeat' (first | (with_reducible assumption) | (with_reducible exact Chg.refl _ _) | (with_reducible refine Chg.alloc ?_ _) | (with_reducible refine Chg.drewN ?_ _) | (with_reducible refine Chg.drew ?_) | (with_reducible refine Chg.strW ?_ _ _) | (with_reducible refine Chg.t0 ?_ (by with_reducible assumption)))) | fail)
          (first
            | (go_simp; go_at_call 17; (with_reducible refine (recSame_to _ o q key m c vo A val cp gone ttl o' q' key' m' c' vo' A' val' cp' gone' ttl' _ hs.out (Rd.k0 RX2.out (by repeat' (first | (with_reducible assumption) | (with_reducible exact Chg.refl _ _) | (with_reducible refine Chg.alloc ?_ _) | (with_reducible refine Chg.drewN ?_ _) | (with_reducible refine Chg.drew ?_) | (with_reducible refine Chg.strW ?_ _ _) | (with_reducible refine Chg.t0 ?_ (by with_reducible assumption))))) (Rd.k0 RY2.out (by repeat' (first | (with_reducible assumption) | (with_reducible exact Chg.refl _ _) | (with_reducible refine Chg.alloc ?_ _) | (with_reducible refine Chg.drewN ?_ _) | (with_reducible refine Chg.drew ?_) | (with_reducible refine Chg.strW ?_ _ _) | (with_reducible refine Chg.t0 ?_ (by with_reducible assumption)))))).mono ?_); rintro e w3 ⟨rfl, hch3⟩; have hch23 : Hid (Chg [] w2 w3) := ((by repeat' (first | (with_reducible assumption) | (with_reducible exact Chg.refl _ _) | (with_reducible refine Chg.alloc ?_ _) | (with_reducible refine Chg.drewN ?_ _) | (with_reducible refine Chg.drew ?_) | (with_reducible refine Chg.strW ?_ _ _) | (with_reducible refine Chg.t0 ?_ (by with_reducible assumption)))) : Chg [] w2 w3); obtain ⟨a0, a1, a2, a3, a4, a5, a6, a7, a8, d0, d1, d2, d3, d4, d5, d6, d7, d8⟩ := KK.out w3 hch23.out)
            | (go_simp; go_at_call 17; (with_reducible refine (recSame_to _ o q key m c vo A val cp gone ttl o q key m c vo A val cp gone ttl true (sameR_self _) (Rd.k0 RX2.out (by repeat' (first | (with_reducible assumption) | (with_reducible exact Chg.refl _ _) | (with_reducible refine Chg.alloc ?_ _) | (with_reducible refine Chg.drewN ?_ _) | (with_reducible refine Chg.drew ?_) | (with_reducible refine Chg.strW ?_ _ _) | (with_reducible refine Chg.t0 ?_ (by with_reducible assumption))))) (Rd.k0 RX2.out (by repeat' (first | (with_reducible assumption) | (with_reducible exact Chg.refl _ _) | (with_reducible refine Chg.alloc ?_ _) | (with_reducible refine Chg.drewN ?_ _) | (with_reducible refine Chg.drew ?_) | (with_reducible refine Chg.strW ?_ _ _) | (with_reducible refine Chg.t0 ?_ (by with_reducible assumption)))))).mono ?_); rintro e w3 ⟨rfl, hch3⟩; have hch23 : Hid (Chg [] w2 w3) := ((by repeat' (first | (with_reducible assumption) | (with_reducible exact Chg.refl _ _) | (with_reducible refine Chg.alloc ?_ _) | (with_reducible refine Chg.drewN ?_ _) | (with_reducible refine Chg.drew ?_) | (with_reducible refine Chg.strW ?_ _ _) | (with_reducible refine Chg.t0 ?_ (by with_reducible assumption)))) : Chg [] w2 w3); obtain ⟨a0, a1, a2, a3, a4, a5, a6, a7, a8, d0, d1, d2, d3, d4, d5, d6, d7, d8⟩ := KK.out w3 hch23.out)
            | (go_simp; go_at_call 17; (with_reducible refine (recSame_to _ o' q' key' m' c' vo' A' val' cp' gone' ttl' o q key m c vo A val cp gone ttl _ ((sameR_comm _ _).trans hs.out) (Rd.k0 RY2.out (by repeat' (first | (with_reducible assumption) | (with_reducible exact Chg.refl _ _) | (with_reducible refine Chg.alloc ?_ _) | (with_reducible refine Chg.drewN ?_ _) | (with_reducible refine Chg.drew ?_) | (with_reducible refine Chg.strW ?_ _ _) | (with_reducible refine Chg.t0 ?_ (by with_reducible assumption))))) (Rd.k0 RX2.out (by repeat' (first | (with_reducible assumption) | (with_reducible exact Chg.refl _ _) | (with_reducible refine Chg.alloc ?_ _) | (with_reducible refine Chg.drewN ?_ _) | (with_reducible refine Chg.drew ?_) | (with_reducible refine Chg.strW ?_ _ _) | (with_reducible refine Chg.t0 ?_ (by with_reducible assumption)))))).mono ?_); rintro e w3 ⟨rfl, hch3⟩; have hch23 : Hid (Chg [] w2 w3) := ((by repeat' (first | (with_reducible assumption) | (with_reducible exact Chg.refl _ _) | (with_reducible refine Chg.alloc ?_ _) | (with_reducible refine Chg.drewN ?_ _) | (with_reducible refine Chg.drew ?_) | (with_reducible refine Chg.strW ?_ _ _) | (with_reducible refine Chg.t0 ?_ (by with_reducible assumption)))) : Chg [] w2 w3); obtain ⟨a0, a1, a2, a3, a4, a5, a6, a7, a8, d0, d1, d2, d3, d4, d5, d6, d7, d8⟩ := KK.out w3 hch23.out)
            | (go_simp; go_at_call 16; (with_reducible refine (refSame_to _ o q key m c vo A val cp gone ttl o' q' key' m' c' vo' A' val' cp' gone' ttl' _ hs.out (Rd.k0 RX2.out (by repeat' (first | (with_reducible assumption) | (with_reducible exact Chg.refl _ _) | (with_reducible refine Chg.alloc ?_ _) | (with_reducible refine Chg.drewN ?_ _) | (with_reducible refine Chg.drew ?_) | (with_reducible refine Chg.strW ?_ _ _) | (with_reducible refine Chg.t0 ?_ (by with_reducible assumption))))) (Rd.k0 RY2.out (by repeat' (first | (with_reducible assumption) | (with_reducible exact Chg.refl _ _) | (with_reducible refine Chg.alloc ?_ _) | (with_reducible refine Chg.drewN ?_ _) | (with_reducible refine Chg.drew ?_) | (with_reducible refine Chg.strW ?_ _ _) | (with_reducible refine Chg.t0 ?_ (by with_reducible assumption)))))).mono ?_); rintro e w3 ⟨rfl, hch3⟩; have hch23 : Hid (Chg [] w2 w3) := ((by repeat' (first | (with_reducible assumption) | (with_reducible exact Chg.refl _ _) | (with_reducible refine Chg.alloc ?_ _) | (with_reducible refine Chg.drewN ?_ _) | (with_reducible refine Chg.drew ?_) | (with_reducible refine Chg.strW ?_ _ _) | (with_reducible refine Chg.t0 ?_ (by with_reducible assumption)))) : Chg [] w2 w3); obtain ⟨a0, a1, a2, a3, a4, a5, a6, a7, a8, d0, d1, d2, d3, d4, d5, d6, d7, d8⟩ := KK.out w3 hch23.out)
            | (go_simp; go_at_call 14; (with_reducible refine (knownR_any _).mono ?_); rintro e w3 ⟨rfl, hch3⟩; have hch23 : Hid (Chg [] w2 w3) := ((by repeat' (first | (with_reducible assumption) | (with_reducible exact Chg.refl _ _) | (with_reducible refine Chg.alloc ?_ _) | (with_reducible refine Chg.drewN ?_ _) | (with_reducible refine Chg.drew ?_) | (with_reducible refine Chg.strW ?_ _ _) | (with_reducible refine Chg.t0 ?_ (by with_reducible assumption)))) : Chg [] w2 w3); obtain ⟨a0, a1, a2, a3, a4, a5, a6, a7, a8, d0, d1, d2, d3, d4, d5, d6, d7, d8⟩ := KK.out w3 hch23.out))
        all_goals
          go_wp2_with (fail)
          go_ret
          exact ⟨rfl, H3.out.trans (show Chg [] w2 _ from (by repeat' (first | (with_reducible assumption) | (with_reducible exact Chg.refl _ _) | (with_reducible refine Chg.alloc ?_ _) | (with_reducible refine Chg.drewN ?_ _) | (with_reducible refine Chg.drew ?_) | (with_reducible refine Chg.strW ?_ _ _) | (with_reducible refine Chg.t0 ?_ (by with_reducible assumption))))) (by simp)⟩
    · go_wp2_with (fail)
      go_ret
      exact ⟨rfl, h3.chg⟩
  · go_wp2_with (fail)
    go_ret
    exact ⟨rfl, h2.chg⟩
end Go.Proofs.Ytlccjdcmhfhoeaa
