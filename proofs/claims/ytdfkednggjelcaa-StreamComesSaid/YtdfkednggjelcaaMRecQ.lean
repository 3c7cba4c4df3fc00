
/-
  Several texts in one: RecL, RecSame, RecEq.
-/
import Derived.Test.YtdfkednggjelcaaRecS
import Derived.Test.YtdfkednggjelcaaRecE
import Derived.Deep.RegionHeld3
namespace Go.Proofs.Ytdfkednggjelcaa
open Go.RowKit
set_option linter.unusedVariables false

/-- 'heavy' is told: where it says no, records are no more than is looked at. -/
def HeavyR (most : Nat) (ls : List RcV) (w : World) (e : Ending) (w' : World) : Prop := ∃ hv : Bool, e = .returned (.bool hv) ∧ (hv = false → 20 * ls.length + (ls.map fun x => x.r.key.length + x.r.val.length).sum ≤ most) ∧ Chg [] w w'

theorem enc_known : encR ⟨1, 2, [107], 3, 4, 1, [118], false, 0⟩ = [1, 2, 1, 107, 3, 4, 0, 0, 1, 118] := by decide +kernel
end Go.Proofs.Ytdfkednggjelcaa
namespace Go.Proofs.Ytdfkednggjelcaa
open Go.RowKit
set_option linter.unusedVariables false

theorem RcV.arr (x : RcV) : x.cells.toArray = #[.int .i64 x.r.o, .int .i64 x.r.q, .string ⟨x.r.key.toArray⟩, .int .i64 x.r.m, .int .i64 x.r.c, .int .i64 x.r.vo, .slice x.A x.r.val.length x.cp, .bool x.r.gone, .int .i64 x.r.ttl] := rfl

theorem refSame_to (w : World) (o q : Int) (key : List UInt8) (m c vo : Int) (A : Option Addr) (val : List UInt8) (cp : Nat) (gone : Bool) (ttl : Int)
    (o' q' : Int) (key' : List UInt8) (m' c' vo' : Int) (A' : Option Addr) (val' : List UInt8) (cp' : Nat) (gone' : Bool) (ttl' : Int) (s : Bool) (hs : sameR ⟨o, q, key, m, c, vo, val, gone, ttl⟩ ⟨o', q', key', m', c', vo', val', gone', ttl'⟩ = s) (hx : Rd w 1 A val.length (cB val)) (hy : Rd w 1 A' val'.length (cB val')) :
    Calls Try.prog 40 #[.agg #[.int .i64 o, .int .i64 q, .string ⟨key.toArray⟩, .int .i64 m, .int .i64 c, .int .i64 vo, .slice A val.length cp, .bool gone, .int .i64 ttl],
        .agg #[.int .i64 o', .int .i64 q', .string ⟨key'.toArray⟩, .int .i64 m', .int .i64 c', .int .i64 vo', .slice A' val'.length cp', .bool gone', .int .i64 ttl']] w fun e w' => e = .returned (.bool s) ∧ Chg [] w w' := by
  subst hs
  exact refSame_any w o q key m c vo A val cp gone ttl o' q' key' m' c' vo' A' val' cp' gone' ttl' hx hy

end Go.Proofs.Ytdfkednggjelcaa
namespace Go.Proofs.Ytdfkednggjelcaa
open Go.RowKit
set_option linter.unusedVariables false

set_option maxRecDepth 100000 in
set_option maxHeartbeats 3200000 in
theorem records_yes (w : World) (A B : Option Addr) (n m c d : Nat) (xs ys : List RcV) (h : xs.map RcV.r = ys.map RcV.r) (hn : xs.length = n) (hm : ys.length = m) (hx : Rd w 9 A xs.length (cRc xs)) (hy : Rd w 9 B ys.length (cRc ys))
    (hxs : ∀ x ∈ xs, Rd w 1 x.A x.r.val.length (cB x.r.val)) (hys : ∀ x ∈ ys, Rd w 1 x.A x.r.val.length (cB x.r.val)) (hl : xs.length ≤ 1099511627776) :
    Calls Try.prog 16 #[.slice A n c, .slice B m d] w fun e w' => e = .returned (.bool true) ∧ Chg [] w w' := by
  subst hn hm
  have hlen : xs.length = ys.length := by have := congrArg List.length h; simpa using this
  have HX := Lib.hid hx
  have HY := Lib.hid hy
  have HXS := Lib.hid hxs
  have HYS := Lib.hid hys
  have H := Lib.hid h
  have hb : ((xs.length : Int) != (ys.length : Int)) = false := by rw [hlen]; simp
  have Hlen := Lib.hid hlen
  clear hx hy hxs hys h hlen
  go_enter Try.func16, Try.ntmps16
  go_wp2_with (fail)
  clear hb
  go_loopw [5] (fun i wr => ∃ k : Nat, k ≤ xs.length ∧ i = .int .i64 k ∧ Chg [] w wr) (fun i _ => xs.length - (intOf i).toNat)
  case atStart => exact ⟨0, Nat.zero_le _, rfl, Chg.refl _ _⟩
  case round =>
    obtain ⟨k, hk, rfl, hch⟩ := hrel
    by_cases hlt : k < xs.length
    · have hlt2 : k < ys.length := by have := Hlen.out; omega
      obtain ⟨ad, rfl, had, hx0, hxc⟩ := (HX.out.keep0 hch).getR hlt
      obtain ⟨ad2, rfl, had2, hy0, hyc⟩ := (HY.out.keep0 hch).getR hlt2
      have HM : Hid (Rd wr 1 xs[k].A xs[k].r.val.length (cB xs[k].r.val)) := (HXS.out _ (List.getElem_mem hlt)).keep0 hch
      have HM2 : Hid (Rd wr 1 ys[k].A ys[k].r.val.length (cB ys[k].r.val)) := (HYS.out _ (List.getElem_mem hlt2)).keep0 hch
      have HE : Hid (xs[k].r = ys[k].r) := by
        have h1 := congrArg (fun l => l[k]?) H.out
        simp only [List.getElem?_map, List.getElem?_eq_getElem hlt, List.getElem?_eq_getElem hlt2, Option.map_some, Option.some.injEq] at h1
        exact h1
      have hx1 := hxc 1 _ (by omega) rfl
      have hx2 := hxc 2 _ (by omega) rfl
      have hx3 := hxc 3 _ (by omega) rfl
      have hx4 := hxc 4 _ (by omega) rfl
      have hx5 := hxc 5 _ (by omega) rfl
      have hx6 := hxc 6 _ (by omega) rfl
      have hx7 := hxc 7 _ (by omega) rfl
      have hx8 := hxc 8 _ (by omega) rfl
      have hy1 := hyc 1 _ (by omega) rfl
      have hy2 := hyc 2 _ (by omega) rfl
      have hy3 := hyc 3 _ (by omega) rfl
      have hy4 := hyc 4 _ (by omega) rfl
      have hy5 := hyc 5 _ (by omega) rfl
      have hy6 := hyc 6 _ (by omega) rfl
      have hy7 := hyc 7 _ (by omega) rfl
      have hy8 := hyc 8 _ (by omega) rfl
      clear hxc hyc
      generalize xs[k] = x at *
      generalize ys[k] = y at *
      obtain ⟨⟨xo, xq, xkey, xm, xc, xvo, xval, xgone, xttl⟩, xA, xcp⟩ := x
      obtain ⟨⟨yo, yq, ykey, ym, yc, yvo, yval, ygone, yttl⟩, yA, ycp⟩ := y
      simp only at hx0 hx1 hx2 hx3 hx4 hx5 hx6 hx7 hx8 hy0 hy1 hy2 hy3 hy4 hy5 hy6 hy7 hy8 HE HM HM2
      have HS : Hid (sameR ⟨xo, xq, xkey, xm, xc, xvo, xval, xgone, xttl⟩ ⟨yo, yq, ykey, ym, yc, yvo, yval, ygone, yttl⟩ = true) := sameR_iff.2 HE.out
      have KK : Hid (∀ w', Chg [] wr w' → w'.cell? (ad.add (k * 9)) = some (.int .i64 xo) ∧ w'.cell? ⟨(ad.add (k * 9)).block, (ad.add (k * 9)).off + 1, none⟩ = some (.int .i64 xq) ∧ w'.cell? ⟨(ad.add (k * 9)).block, (ad.add (k * 9)).off + 2, none⟩ = some (.string ⟨xkey.toArray⟩) ∧ w'.cell? ⟨(ad.add (k * 9)).block, (ad.add (k * 9)).off + 3, none⟩ = some (.int .i64 xm) ∧ w'.cell? ⟨(ad.add (k * 9)).block, (ad.add (k * 9)).off + 4, none⟩ = some (.int .i64 xc) ∧ w'.cell? ⟨(ad.add (k * 9)).block, (ad.add (k * 9)).off + 5, none⟩ = some (.int .i64 xvo) ∧ w'.cell? ⟨(ad.add (k * 9)).block, (ad.add (k * 9)).off + 6, none⟩ = some (.slice xA xval.length xcp) ∧ w'.cell? ⟨(ad.add (k * 9)).block, (ad.add (k * 9)).off + 7, none⟩ = some (.bool xgone) ∧ w'.cell? ⟨(ad.add (k * 9)).block, (ad.add (k * 9)).off + 8, none⟩ = some (.int .i64 xttl) ∧ w'.cell? (ad2.add (k * 9)) = some (.int .i64 yo) ∧ w'.cell? ⟨(ad2.add (k * 9)).block, (ad2.add (k * 9)).off + 1, none⟩ = some (.int .i64 yq) ∧ w'.cell? ⟨(ad2.add (k * 9)).block, (ad2.add (k * 9)).off + 2, none⟩ = some (.string ⟨ykey.toArray⟩) ∧ w'.cell? ⟨(ad2.add (k * 9)).block, (ad2.add (k * 9)).off + 3, none⟩ = some (.int .i64 ym) ∧ w'.cell? ⟨(ad2.add (k * 9)).block, (ad2.add (k * 9)).off + 4, none⟩ = some (.int .i64 yc) ∧ w'.cell? ⟨(ad2.add (k * 9)).block, (ad2.add (k * 9)).off + 5, none⟩ = some (.int .i64 yvo) ∧ w'.cell? ⟨(ad2.add (k * 9)).block, (ad2.add (k * 9)).off + 6, none⟩ = some (.slice yA yval.length ycp) ∧ w'.cell? ⟨(ad2.add (k * 9)).block, (ad2.add (k * 9)).off + 7, none⟩ = some (.bool ygone) ∧ w'.cell? ⟨(ad2.add (k * 9)).block, (ad2.add (k * 9)).off + 8, none⟩ = some (.int .i64 yttl)) := fun w' hc => ⟨(hc.cell (by rw [add_block]; exact had) (by simp)).trans hx0, (hc.cell (p := ⟨(ad.add (k * 9)).block, (ad.add (k * 9)).off + 1, none⟩) (by show (ad.add (k * 9)).block < _; rw [add_block]; exact had) (by simp)).trans hx1, (hc.cell (p := ⟨(ad.add (k * 9)).block, (ad.add (k * 9)).off + 2, none⟩) (by show (ad.add (k * 9)).block < _; rw [add_block]; exact had) (by simp)).trans hx2, (hc.cell (p := ⟨(ad.add (k * 9)).block, (ad.add (k * 9)).off + 3, none⟩) (by show (ad.add (k * 9)).block < _; rw [add_block]; exact had) (by simp)).trans hx3, (hc.cell (p := ⟨(ad.add (k * 9)).block, (ad.add (k * 9)).off + 4, none⟩) (by show (ad.add (k * 9)).block < _; rw [add_block]; exact had) (by simp)).trans hx4, (hc.cell (p := ⟨(ad.add (k * 9)).block, (ad.add (k * 9)).off + 5, none⟩) (by show (ad.add (k * 9)).block < _; rw [add_block]; exact had) (by simp)).trans hx5, (hc.cell (p := ⟨(ad.add (k * 9)).block, (ad.add (k * 9)).off + 6, none⟩) (by show (ad.add (k * 9)).block < _; rw [add_block]; exact had) (by simp)).trans hx6, (hc.cell (p := ⟨(ad.add (k * 9)).block, (ad.add (k * 9)).off + 7, none⟩) (by show (ad.add (k * 9)).block < _; rw [add_block]; exact had) (by simp)).trans hx7, (hc.cell (p := ⟨(ad.add (k * 9)).block, (ad.add (k * 9)).off + 8, none⟩) (by show (ad.add (k * 9)).block < _; rw [add_block]; exact had) (by simp)).trans hx8, (hc.cell (by rw [add_block]; exact had2) (by simp)).trans hy0, (hc.cell (p := ⟨(ad2.add (k * 9)).block, (ad2.add (k * 9)).off + 1, none⟩) (by show (ad2.add (k * 9)).block < _; rw [add_block]; exact had2) (by simp)).trans hy1, (hc.cell (p := ⟨(ad2.add (k * 9)).block, (ad2.add (k * 9)).off + 2, none⟩) (by show (ad2.add (k * 9)).block < _; rw [add_block]; exact had2) (by simp)).trans hy2, (hc.cell (p := ⟨(ad2.add (k * 9)).block, (ad2.add (k * 9)).off + 3, none⟩) (by show (ad2.add (k * 9)).block < _; rw [add_block]; exact had2) (by simp)).trans hy3, (hc.cell (p := ⟨(ad2.add (k * 9)).block, (ad2.add (k * 9)).off + 4, none⟩) (by show (ad2.add (k * 9)).block < _; rw [add_block]; exact had2) (by simp)).trans hy4, (hc.cell (p := ⟨(ad2.add (k * 9)).block, (ad2.add (k * 9)).off + 5, none⟩) (by show (ad2.add (k * 9)).block < _; rw [add_block]; exact had2) (by simp)).trans hy5, (hc.cell (p := ⟨(ad2.add (k * 9)).block, (ad2.add (k * 9)).off + 6, none⟩) (by show (ad2.add (k * 9)).block < _; rw [add_block]; exact had2) (by simp)).trans hy6, (hc.cell (p := ⟨(ad2.add (k * 9)).block, (ad2.add (k * 9)).off + 7, none⟩) (by show (ad2.add (k * 9)).block < _; rw [add_block]; exact had2) (by simp)).trans hy7, (hc.cell (p := ⟨(ad2.add (k * 9)).block, (ad2.add (k * 9)).off + 8, none⟩) (by show (ad2.add (k * 9)).block < _; rw [add_block]; exact had2) (by simp)).trans hy8⟩
      have hki : (k : Int) < (xs.length : Int) := by omega
      have hki2 : (k : Int) < (ys.length : Int) := by omega
      clear HE
      go_wp2_with (fail)
      go_region_held3 (fun w' => w'.cell? (ad.add (k * 9)) = some (.int .i64 xo) ∧ w'.cell? ⟨(ad.add (k * 9)).block, (ad.add (k * 9)).off + 1, none⟩ = some (.int .i64 xq) ∧ w'.cell? ⟨(ad.add (k * 9)).block, (ad.add (k * 9)).off + 2, none⟩ = some (.string ⟨xkey.toArray⟩) ∧ w'.cell? ⟨(ad.add (k * 9)).block, (ad.add (k * 9)).off + 3, none⟩ = some (.int .i64 xm) ∧ w'.cell? ⟨(ad.add (k * 9)).block, (ad.add (k * 9)).off + 4, none⟩ = some (.int .i64 xc) ∧ w'.cell? ⟨(ad.add (k * 9)).block, (ad.add (k * 9)).off + 5, none⟩ = some (.int .i64 xvo) ∧ w'.cell? ⟨(ad.add (k * 9)).block, (ad.add (k * 9)).off + 6, none⟩ = some (.slice xA xval.length xcp) ∧ w'.cell? ⟨(ad.add (k * 9)).block, (ad.add (k * 9)).off + 7, none⟩ = some (.bool xgone) ∧ w'.cell? ⟨(ad.add (k * 9)).block, (ad.add (k * 9)).off + 8, none⟩ = some (.int .i64 xttl) ∧ w'.cell? (ad2.add (k * 9)) = some (.int .i64 yo) ∧ w'.cell? ⟨(ad2.add (k * 9)).block, (ad2.add (k * 9)).off + 1, none⟩ = some (.int .i64 yq) ∧ w'.cell? ⟨(ad2.add (k * 9)).block, (ad2.add (k * 9)).off + 2, none⟩ = some (.string ⟨ykey.toArray⟩) ∧ w'.cell? ⟨(ad2.add (k * 9)).block, (ad2.add (k * 9)).off + 3, none⟩ = some (.int .i64 ym) ∧ w'.cell? ⟨(ad2.add (k * 9)).block, (ad2.add (k * 9)).off + 4, none⟩ = some (.int .i64 yc) ∧ w'.cell? ⟨(ad2.add (k * 9)).block, (ad2.add (k * 9)).off + 5, none⟩ = some (.int .i64 yvo) ∧ w'.cell? ⟨(ad2.add (k * 9)).block, (ad2.add (k * 9)).off + 6, none⟩ = some (.slice yA yval.length ycp) ∧ w'.cell? ⟨(ad2.add (k * 9)).block, (ad2.add (k * 9)).off + 7, none⟩ = some (.bool ygone) ∧ w'.cell? ⟨(ad2.add (k * 9)).block, (ad2.add (k * 9)).off + 8, none⟩ = some (.int .i64 yttl)) (first | go_keep | exact KK.out _ (by repeat' (first | (with_reducible assumption) | (with_reducible exact Chg.refl _ _) | (with_reducible refine Chg.alloc ?_ _) | (with_reducible refine Chg.drewN ?_ _) | (with_reducible refine Chg.drew ?_) | (with_reducible refine Chg.strW ?_ _ _) | (with_reducible refine Chg.t0 ?_ (by with_reducible assumption)))) | fail)
        (first
          | (go_simp; go_at_call 40; (with_reducible refine (refSame_to _ xo xq xkey xm xc xvo xA xval xcp xgone xttl yo yq ykey ym yc yvo yA yval ycp ygone yttl true HS.out (Rd.k0 HM.out (by repeat' (first | (with_reducible assumption) | (with_reducible exact Chg.refl _ _) | (with_reducible refine Chg.alloc ?_ _) | (with_reducible refine Chg.drewN ?_ _) | (with_reducible refine Chg.drew ?_) | (with_reducible refine Chg.strW ?_ _ _) | (with_reducible refine Chg.t0 ?_ (by with_reducible assumption))))) (Rd.k0 HM2.out (by repeat' (first | (with_reducible assumption) | (with_reducible exact Chg.refl _ _) | (with_reducible refine Chg.alloc ?_ _) | (with_reducible refine Chg.drewN ?_ _) | (with_reducible refine Chg.drew ?_) | (with_reducible refine Chg.strW ?_ _ _) | (with_reducible refine Chg.t0 ?_ (by with_reducible assumption)))))).mono ?_); rintro e w3 ⟨rfl, hch3⟩; have hch23 : Hid (Chg [] wr w3) := ((by repeat' (first | (with_reducible assumption) | (with_reducible exact Chg.refl _ _) | (with_reducible refine Chg.alloc ?_ _) | (with_reducible refine Chg.drewN ?_ _) | (with_reducible refine Chg.drew ?_) | (with_reducible refine Chg.strW ?_ _ _) | (with_reducible refine Chg.t0 ?_ (by with_reducible assumption)))) : Chg [] wr w3); obtain ⟨hx0, hx1, hx2, hx3, hx4, hx5, hx6, hx7, hx8, hy0, hy1, hy2, hy3, hy4, hy5, hy6, hy7, hy8⟩ := KK.out w3 hch23.out))
      all_goals
        go_wp2_with (fail)
        go_roundw
        case rel => exact ⟨k + 1, by omega, by go_num, hch.trans (show Chg [] wr _ from (by repeat' (first | (with_reducible assumption) | (with_reducible exact Chg.refl _ _) | (with_reducible refine Chg.alloc ?_ _) | (with_reducible refine Chg.drewN ?_ _) | (with_reducible refine Chg.drew ?_) | (with_reducible refine Chg.strW ?_ _ _) | (with_reducible refine Chg.t0 ?_ (by with_reducible assumption))))) (by simp)⟩
        case measure => simp [intOf]; omega
    · obtain rfl : k = xs.length := by omega
      go_wp2_with (fail)
      go_ret
      exact ⟨rfl, hch⟩
end Go.Proofs.Ytdfkednggjelcaa
