
/-
  Two words, two rows of records: are they one?
-/
import Derived.Test.YtkdbjhmffnjimaaWirA2
namespace Go.Proofs.Ytkdbjhmffnjimaa
open Go.RowKit
set_option linter.unusedVariables false

def sameLs : List Rc → List Rc → Bool
  | [], [] => true
  | a :: l, b :: m => sameR a b && sameLs l m
  | _, _ => false
theorem sameLs_iff : ∀ {l m : List Rc}, sameLs l m = true ↔ l = m := by
  intro l
  induction l with
  | nil => intro m; cases m <;> simp [sameLs]
  | cons a l ih =>
    intro m
    cases m with
    | nil => simp [sameLs]
    | cons b m => simp only [sameLs, Bool.and_eq_true, sameR_iff, ih, List.cons.injEq]
def sameWd (x y : Wd) : Bool := decide (x.k = y.k) && decide (x.o = y.o) && decide (x.q = y.q) && decide (x.sm = y.sm) && decide (x.sc = y.sc) && decide (x.fm = y.fm) && decide (x.fc = y.fc) && sameLs x.rs y.rs
theorem sameWd_iff {x y : Wd} : sameWd x y = true ↔ x = y := by
  obtain ⟨k, o, q, sm, sc, fm, fc, rs⟩ := x
  obtain ⟨k', o', q', sm', sc', fm', fc', rs'⟩ := y
  simp only [sameWd, Bool.and_eq_true, decide_eq_true_eq, sameLs_iff, Wd.mk.injEq, and_assoc]

set_option maxRecDepth 100000 in
set_option maxHeartbeats 3200000 in
theorem records_to (w : World) (A B : Option Addr) (n m c d : Nat) (xs ys : List RcV) (s : Bool) (hs : sameLs (xs.map RcV.r) (ys.map RcV.r) = s) (hn : xs.length = n) (hm : ys.length = m) (hx : Rd w 9 A xs.length (cRc xs)) (hy : Rd w 9 B ys.length (cRc ys))
    (hxs : ∀ x ∈ xs, Rd w 1 x.A x.r.val.length (cB x.r.val)) (hys : ∀ x ∈ ys, Rd w 1 x.A x.r.val.length (cB x.r.val)) (hl : xs.length ≤ 1099511627776) :
    Calls Try.prog 31 #[.slice A n c, .slice B m d] w fun e w' => e = .returned (.bool s) ∧ Chg [] w w' := by
  subst hn hm
  have Hs := Lib.hid hs
  clear hs
  by_cases hlen : xs.length = ys.length
  rotate_left
  · have hb : ((xs.length : Int) != (ys.length : Int)) = true := by rw [bne_iff_ne]; omega
    have hsf : s = false := by
      rw [← Hs.out]
      cases h : sameLs (xs.map RcV.r) (ys.map RcV.r) with
      | false => rfl
      | true => exact absurd (by have h2 := congrArg List.length (sameLs_iff.1 h); simpa using h2) hlen
    subst hsf
    clear hlen Hs
    go_enter Try.func31, Try.ntmps31
    go_wp2_with (fail)
    go_ret
    exact ⟨rfl, Chg.refl _ _⟩
  have HX := Lib.hid hx
  have HY := Lib.hid hy
  have HXS := Lib.hid hxs
  have HYS := Lib.hid hys
  have hb : ((xs.length : Int) != (ys.length : Int)) = false := by rw [hlen]; simp
  have Hlen := Lib.hid hlen
  clear hx hy hxs hys hlen
  go_enter Try.func31, Try.ntmps31
  go_wp2_with (fail)
  clear hb
  go_loopw [5] (fun i wr => ∃ k : Nat, k ≤ xs.length ∧ i = .int .i64 k ∧ Hid (∀ j (h1 : j < xs.length) (h2 : j < ys.length), j < k → xs[j].r = ys[j].r) ∧ Chg [] w wr) (fun i _ => xs.length - (intOf i).toNat)
  case atStart => exact ⟨0, Nat.zero_le _, rfl, by intro j h1 h2 hj; omega, Chg.refl _ _⟩
  case round =>
    obtain ⟨k, hk, rfl, HI, hch⟩ := hrel
    by_cases hlt : k < xs.length
    · have hlt2 : k < ys.length := by have := Hlen.out; omega
      obtain ⟨ad, rfl, had, hx0, hxc⟩ := (HX.out.keep0 hch).getR hlt
      obtain ⟨ad2, rfl, had2, hy0, hyc⟩ := (HY.out.keep0 hch).getR hlt2
      have HM : Hid (Rd wr 1 xs[k].A xs[k].r.val.length (cB xs[k].r.val)) := (HXS.out _ (List.getElem_mem hlt)).keep0 hch
      have HM2 : Hid (Rd wr 1 ys[k].A ys[k].r.val.length (cB ys[k].r.val)) := (HYS.out _ (List.getElem_mem hlt2)).keep0 hch
      have HYes : Hid (xs[k].r = ys[k].r → ∀ j (h1 : j < xs.length) (h2 : j < ys.length), j < k + 1 → xs[j].r = ys[j].r) := fun he j h1 h2 hj => by
        by_cases e : j = k
        · subst e; exact he
        · exact HI.out j h1 h2 (by omega)
      have HNo : Hid (xs[k].r ≠ ys[k].r → s = false) := fun he => by
        rw [← Hs.out]
        cases h : sameLs (xs.map RcV.r) (ys.map RcV.r) with
        | false => rfl
        | true =>
          have h1 := congrArg (fun l => l[k]?) (sameLs_iff.1 h)
          simp only [List.getElem?_map, List.getElem?_eq_getElem hlt, List.getElem?_eq_getElem hlt2, Option.map_some, Option.some.injEq] at h1
          exact absurd h1 he
      have hx1 := hxc 1 _ (by omega) rfl
      have hx2 := hxc 2 _ (by omega) rfl
      have hx3 := hxc 3 _ (by omega) rfl
      have hx4 := hxc 4 _ (by omega) rfl
      have hx5 := hxc 5 _ (by omega) rfl
      have hx6 := hxc 6 _ (by omega) rfl
      have hx7 := hxc 7 _ (by omega) rfl
      have hx8 := hxc 8 _ (by omega) rfl
      have hy1 := hyc 1 _ (by omega) rfl
      have hy2 := hyc 2 _ (by omega) rfl
      have hy3 := hyc 3 _ (by omega) rfl
      have hy4 := hyc 4 _ (by omega) rfl
      have hy5 := hyc 5 _ (by omega) rfl
      have hy6 := hyc 6 _ (by omega) rfl
      have hy7 := hyc 7 _ (by omega) rfl
      have hy8 := hyc 8 _ (by omega) rfl
      clear hxc hyc
      generalize xs[k] = x at *
      generalize ys[k] = y at *
      obtain ⟨⟨xo, xq, xkey, xm, xc, xvo, xval, xgone, xttl⟩, xA, xcp⟩ := x
      obtain ⟨⟨yo, yq, ykey, ym, yc, yvo, yval, ygone, yttl⟩, yA, ycp⟩ := y
      simp only at hx0 hx1 hx2 hx3 hx4 hx5 hx6 hx7 hx8 hy0 hy1 hy2 hy3 hy4 hy5 hy6 hy7 hy8 HYes HNo HM HM2
      obtain ⟨sb, HS⟩ : ∃ sb, Hid (sameR ⟨xo, xq, xkey, xm, xc, xvo, xval, xgone, xttl⟩ ⟨yo, yq, ykey, ym, yc, yvo, yval, ygone, yttl⟩ = sb) := ⟨_, rfl⟩
      have KK : Hid (∀ w', Chg [] wr w' → w'.cell? (ad.add (k * 9)) = some (.int .i64 xo) ∧ w'.cell? ⟨(ad.add (k * 9)).block, (ad.add (k * 9)).off + 1, none⟩ = some (.int .i64 xq) ∧ w'.cell? ⟨(ad.add (k * 9)).block, (ad.add (k * 9)).off + 2, none⟩ = some (.string ⟨xkey.toArray⟩) ∧ w'.cell? ⟨(ad.add (k * 9)).block, (ad.add (k * 9)).off + 3, none⟩ = some (.int .i64 xm) ∧ w'.cell? ⟨(ad.add (k * 9)).block, (ad.add (k * 9)).off + 4, none⟩ = some (.int .i64 xc) ∧ w'.cell? ⟨(ad.add (k * 9)).block, (ad.add (k * 9)).off + 5, none⟩ = some (.int .i64 xvo) ∧ w'.cell? ⟨(ad.add (k * 9)).block, (ad.add (k * 9)).off + 6, none⟩ = some (.slice xA xval.length xcp) ∧ w'.cell? ⟨(ad.add (k * 9)).block, (ad.add (k * 9)).off + 7, none⟩ = some (.bool xgone) ∧ w'.cell? ⟨(ad.add (k * 9)).block, (ad.add (k * 9)).off + 8, none⟩ = some (.int .i64 xttl) ∧ w'.cell? (ad2.add (k * 9)) = some (.int .i64 yo) ∧ w'.cell? ⟨(ad2.add (k * 9)).block, (ad2.add (k * 9)).off + 1, none⟩ = some (.int .i64 yq) ∧ w'.cell? ⟨(ad2.add (k * 9)).block, (ad2.add (k * 9)).off + 2, none⟩ = some (.string ⟨ykey.toArray⟩) ∧ w'.cell? ⟨(ad2.add (k * 9)).block, (ad2.add (k * 9)).off + 3, none⟩ = some (.int .i64 ym) ∧ w'.cell? ⟨(ad2.add (k * 9)).block, (ad2.add (k * 9)).off + 4, none⟩ = some (.int .i64 yc) ∧ w'.cell? ⟨(ad2.add (k * 9)).block, (ad2.add (k * 9)).off + 5, none⟩ = some (.int .i64 yvo) ∧ w'.cell? ⟨(ad2.add (k * 9)).block, (ad2.add (k * 9)).off + 6, none⟩ = some (.slice yA yval.length ycp) ∧ w'.cell? ⟨(ad2.add (k * 9)).block, (ad2.add (k * 9)).off + 7, none⟩ = some (.bool ygone) ∧ w'.cell? ⟨(ad2.add (k * 9)).block, (ad2.add (k * 9)).off + 8, none⟩ = some (.int .i64 yttl)) := fun w' hc => ⟨(hc.cell (by rw [add_block]; exact had) (by simp)).trans hx0, (hc.cell (p := ⟨(ad.add (k * 9)).block, (ad.add (k * 9)).off + 1, none⟩) (by show (ad.add (k * 9)).block < _; rw [add_block]; exact had) (by simp)).trans hx1, (hc.cell (p := ⟨(ad.add (k * 9)).block, (ad.add (k * 9)).off + 2, none⟩) (by show (ad.add (k * 9)).block < _; rw [add_block]; exact had) (by simp)).trans hx2, (hc.cell (p := ⟨(ad.add (k * 9)).block, (ad.add (k * 9)).off + 3, none⟩) (by show (ad.add (k * 9)).block < _; rw [add_block]; exact had) (by simp)).trans hx3, (hc.cell (p := ⟨(ad.add (k * 9)).block, (ad.add (k * 9)).off + 4, none⟩) (by show (ad.add (k * 9)).block < _; rw [add_block]; exact had) (by simp)).trans hx4, (hc.cell (p := ⟨(ad.add (k * 9)).block, (ad.add (k * 9)).off + 5, none⟩) (by show (ad.add (k * 9)).block < _; rw [add_block]; exact had) (by simp)).trans hx5, (hc.cell (p := ⟨(ad.add (k * 9)).block, (ad.add (k * 9)).off + 6, none⟩) (by show (ad.add (k * 9)).block < _; rw [add_block]; exact had) (by simp)).trans hx6, (hc.cell (p := ⟨(ad.add (k * 9)).block, (ad.add (k * 9)).off + 7, none⟩) (by show (ad.add (k * 9)).block < _; rw [add_block]; exact had) (by simp)).trans hx7, (hc.cell (p := ⟨(ad.add (k * 9)).block, (ad.add (k * 9)).off + 8, none⟩) (by show (ad.add (k * 9)).block < _; rw [add_block]; exact had) (by simp)).trans hx8, (hc.cell (by rw [add_block]; exact had2) (by simp)).trans hy0, (hc.cell (p := ⟨(ad2.add (k * 9)).block, (ad2.add (k * 9)).off + 1, none⟩) (by show (ad2.add (k * 9)).block < _; rw [add_block]; exact had2) (by simp)).trans hy1, (hc.cell (p := ⟨(ad2.add (k * 9)).block, (ad2.add (k * 9)).off + 2, none⟩) (by show (ad2.add (k * 9)).block < _; rw [add_block]; exact had2) (by simp)).trans hy2, (hc.cell (p := ⟨(ad2.add (k * 9)).block, (ad2.add (k * 9)).off + 3, none⟩) (by show (ad2.add (k * 9)).block < _; rw [add_block]; exact had2) (by simp)).trans hy3, (hc.cell (p := ⟨(ad2.add (k * 9)).block, (ad2.add (k * 9)).off + 4, none⟩) (by show (ad2.add (k * 9)).block < _; rw [add_block]; exact had2) (by simp)).trans hy4, (hc.cell (p := ⟨(ad2.add (k * 9)).block, (ad2.add (k * 9)).off + 5, none⟩) (by show (ad2.add (k * 9)).block < _; rw [add_block]; exact had2) (by simp)).trans hy5, (hc.cell (p := ⟨(ad2.add (k * 9)).block, (ad2.add (k * 9)).off + 6, none⟩) (by show (ad2.add (k * 9)).block < _; rw [add_block]; exact had2) (by simp)).trans hy6, (hc.cell (p := ⟨(ad2.add (k * 9)).block, (ad2.add (k * 9)).off + 7, none⟩) (by show (ad2.add (k * 9)).block < _; rw [add_block]; exact had2) (by simp)).trans hy7, (hc.cell (p := ⟨(ad2.add (k * 9)).block, (ad2.add (k * 9)).off + 8, none⟩) (by show (ad2.add (k * 9)).block < _; rw [add_block]; exact had2) (by simp)).trans hy8⟩
      have hki : (k : Int) < (xs.length : Int) := by omega
      have hki2 : (k : Int) < (ys.length : Int) := by omega
      cases sb
      · have HN := Lib.hid (HNo.out (fun he => by have h := HS.out; rw [sameR_iff.2 he] at h; cases h))
        clear HNo HYes
        go_wp2_with (fail)
        go_region_held3 (fun w' => w'.cell? (ad.add (k * 9)) = some (.int .i64 xo) ∧ w'.cell? ⟨(ad.add (k * 9)).block, (ad.add (k * 9)).off + 1, none⟩ = some (.int .i64 xq) ∧ w'.cell? ⟨(ad.add (k * 9)).block, (ad.add (k * 9)).off + 2, none⟩ = some (.string ⟨xkey.toArray⟩) ∧ w'.cell? ⟨(ad.add (k * 9)).block, (ad.add (k * 9)).off + 3, none⟩ = some (.int .i64 xm) ∧ w'.cell? ⟨(ad.add (k * 9)).block, (ad.add (k * 9)).off + 4, none⟩ = some (.int .i64 xc) ∧ w'.cell? ⟨(ad.add (k * 9)).block, (ad.add (k * 9)).off + 5, none⟩ = some (.int .i64 xvo) ∧ w'.cell? ⟨(ad.add (k * 9)).block, (ad.add (k * 9)).off + 6, none⟩ = some (.slice xA xval.length xcp) ∧ w'.cell? ⟨(ad.add (k * 9)).block, (ad.add (k * 9)).off + 7, none⟩ = some (.bool xgone) ∧ w'.cell? ⟨(ad.add (k * 9)).block, (ad.add (k * 9)).off + 8, none⟩ = some (.int .i64 xttl) ∧ w'.cell? (ad2.add (k * 9)) = some (.int .i64 yo) ∧ w'.cell? ⟨(ad2.add (k * 9)).block, (ad2.add (k * 9)).off + 1, none⟩ = some (.int .i64 yq) ∧ w'.cell? ⟨(ad2.add (k * 9)).block, (ad2.add (k * 9)).off + 2, none⟩ = some (.string ⟨ykey.toArray⟩) ∧ w'.cell? ⟨(ad2.add (k * 9)).block, (ad2.add (k * 9)).off + 3, none⟩ = some (.int .i64 ym) ∧ w'.cell? ⟨(ad2.add (k * 9)).block, (ad2.add (k * 9)).off + 4, none⟩ = some (.int .i64 yc) ∧ w'.cell? ⟨(ad2.add (k * 9)).block, (ad2.add (k * 9)).off + 5, none⟩ = some (.int .i64 yvo) ∧ w'.cell? ⟨(ad2.add (k * 9)).block, (ad2.add (k * 9)).off + 6, none⟩ = some (.slice yA yval.length ycp) ∧ w'.cell? ⟨(ad2.add (k * 9)).block, (ad2.add (k * 9)).off + 7, none⟩ = some (.bool ygone) ∧ w'.cell? ⟨(ad2.add (k * 9)).block, (ad2.add (k * 9)).off + 8, none⟩ = some (.int .i64 yttl)) (first | go_keep | exact KK.out _ (by repeat' (first | (with_reducible assumption) | (with_reducible exact Chg.refl _ _) | (with_reducible refine Chg.alloc ?_ _) | (with_reducible refine Chg.drewN ?_ _) | (with_reducible refine Chg.drew ?_) | (with_reducible refine Chg.strW ?_ _ _) | (with_reducible refine Chg.t0 ?_ (by with_reducible assumption)))) | fail)
          (first
            | (go_simp; go_at_call 61; (with_reducible refine (refSame_to _ xo xq xkey xm xc xvo xA xval xcp xgone xttl yo yq ykey ym yc yvo yA yval ycp ygone yttl _ HS.out (Rd.k0 HM.out (by repeat' (first | (with_reducible assumption) | (with_reducible exact Chg.refl _ _) | (with_reducible refine Chg.alloc ?_ _) | (with_reducible refine Chg.drewN ?_ _) | (with_reducible refine Chg.drew ?_) | (with_reducible refine Chg.strW ?_ _ _) | (with_reducible refine Chg.t0 ?_ (by with_reducible assumption))))) (Rd.k0 HM2.out (by repeat' (first | (with_reducible assumption) | (with_reducible exact Chg.refl _ _) | (with_reducible refine Chg.alloc ?_ _) | (with_reducible refine Chg.drewN ?_ _) | (with_reducible refine Chg.drew ?_) | (with_reducible refine Chg.strW ?_ _ _) | (with_reducible refine Chg.t0 ?_ (by with_reducible assumption)))))).mono ?_); rintro e w3 ⟨rfl, hch3⟩; have hch23 : Hid (Chg [] wr w3) := ((by repeat' (first | (with_reducible assumption) | (with_reducible exact Chg.refl _ _) | (with_reducible refine Chg.alloc ?_ _) | (with_reducible refine Chg.drewN ?_ _) | (with_reducible refine Chg.drew ?_) | (with_reducible refine Chg.strW ?_ _ _) | (with_reducible refine Chg.t0 ?_ (by with_reducible assumption)))) : Chg [] wr w3); obtain ⟨hx0, hx1, hx2, hx3, hx4, hx5, hx6, hx7, hx8, hy0, hy1, hy2, hy3, hy4, hy5, hy6, hy7, hy8⟩ := KK.out w3 hch23.out))
        all_goals
          go_wp2_with (fail)
          go_ret
          exact ⟨by rw [HN.out]; rfl, hch.trans (show Chg [] wr _ from (by repeat' (first | (with_reducible assumption) | (with_reducible exact Chg.refl _ _) | (with_reducible refine Chg.alloc ?_ _) | (with_reducible refine Chg.drewN ?_ _) | (with_reducible refine Chg.drew ?_) | (with_reducible refine Chg.strW ?_ _ _) | (with_reducible refine Chg.t0 ?_ (by with_reducible assumption))))) (by simp)⟩
      · have HYY := Lib.hid (HYes.out (sameR_iff.1 HS.out))
        clear HNo HYes
        go_wp2_with (fail)
        go_region_held3 (fun w' => w'.cell? (ad.add (k * 9)) = some (.int .i64 xo) ∧ w'.cell? ⟨(ad.add (k * 9)).block, (ad.add (k * 9)).off + 1, none⟩ = some (.int .i64 xq) ∧ w'.cell? ⟨(ad.add (k * 9)).block, (ad.add (k * 9)).off + 2, none⟩ = some (.string ⟨xkey.toArray⟩) ∧ w'.cell? ⟨(ad.add (k * 9)).block, (ad.add (k * 9)).off + 3, none⟩ = some (.int .i64 xm) ∧ w'.cell? ⟨(ad.add (k * 9)).block, (ad.add (k * 9)).off + 4, none⟩ = some (.int .i64 xc) ∧ w'.cell? ⟨(ad.add (k * 9)).block, (ad.add (k * 9)).off + 5, none⟩ = some (.int .i64 xvo) ∧ w'.cell? ⟨(ad.add (k * 9)).block, (ad.add (k * 9)).off + 6, none⟩ = some (.slice xA xval.length xcp) ∧ w'.cell? ⟨(ad.add (k * 9)).block, (ad.add (k * 9)).off + 7, none⟩ = some (.bool xgone) ∧ w'.cell? ⟨(ad.add (k * 9)).block, (ad.add (k * 9)).off + 8, none⟩ = some (.int .i64 xttl) ∧ w'.cell? (ad2.add (k * 9)) = some (.int .i64 yo) ∧ w'.cell? ⟨(ad2.add (k * 9)).block, (ad2.add (k * 9)).off + 1, none⟩ = some (.int .i64 yq) ∧ w'.cell? ⟨(ad2.add (k * 9)).block, (ad2.add (k * 9)).off + 2, none⟩ = some (.string ⟨ykey.toArray⟩) ∧ w'.cell? ⟨(ad2.add (k * 9)).block, (ad2.add (k * 9)).off + 3, none⟩ = some (.int .i64 ym) ∧ w'.cell? ⟨(ad2.add (k * 9)).block, (ad2.add (k * 9)).off + 4, none⟩ = some (.int .i64 yc) ∧ w'.cell? ⟨(ad2.add (k * 9)).block, (ad2.add (k * 9)).off + 5, none⟩ = some (.int .i64 yvo) ∧ w'.cell? ⟨(ad2.add (k * 9)).block, (ad2.add (k * 9)).off + 6, none⟩ = some (.slice yA yval.length ycp) ∧ w'.cell? ⟨(ad2.add (k * 9)).block, (ad2.add (k * 9)).off + 7, none⟩ = some (.bool ygone) ∧ w'.cell? ⟨(ad2.add (k * 9)).block, (ad2.add (k * 9)).off + 8, none⟩ = some (.int .i64 yttl)) (first | go_keep | exact KK.out _ (by repeat' (first | (with_reducible assumption) | (with_reducible exact Chg.refl _ _) | (with_reducible refine Chg.alloc ?_ _) | (with_reducible refine Chg.drewN ?_ _) | (with_reducible refine Chg.drew ?_) | (with_reducible refine Chg.strW ?_ _ _) | (with_reducible refine Chg.t0 ?_ (by with_reducible assumption)))) | fail)
          (first
            | (go_simp; go_at_call 61; (with_reducible refine (refSame_to _ xo xq xkey xm xc xvo xA xval xcp xgone xttl yo yq ykey ym yc yvo yA yval ycp ygone yttl _ HS.out (Rd.k0 HM.out (by repeat' (first | (with_reducible assumption) | (with_reducible exact Chg.refl _ _) | (with_reducible refine Chg.alloc ?_ _) | (with_reducible refine Chg.drewN ?_ _) | (with_reducible refine Chg.drew ?_) | (with_reducible refine Chg.strW ?_ _ _) | (with_reducible refine Chg.t0 ?_ (by with_reducible assumption))))) (Rd.k0 HM2.out (by repeat' (first | (with_reducible assumption) | (with_reducible exact Chg.refl _ _) | (with_reducible refine Chg.alloc ?_ _) | (with_reducible refine Chg.drewN ?_ _) | (with_reducible refine Chg.drew ?_) | (with_reducible refine Chg.strW ?_ _ _) | (with_reducible refine Chg.t0 ?_ (by with_reducible assumption)))))).mono ?_); rintro e w3 ⟨rfl, hch3⟩; have hch23 : Hid (Chg [] wr w3) := ((by repeat' (first | (with_reducible assumption) | (with_reducible exact Chg.refl _ _) | (with_reducible refine Chg.alloc ?_ _) | (with_reducible refine Chg.drewN ?_ _) | (with_reducible refine Chg.drew ?_) | (with_reducible refine Chg.strW ?_ _ _) | (with_reducible refine Chg.t0 ?_ (by with_reducible assumption)))) : Chg [] wr w3); obtain ⟨hx0, hx1, hx2, hx3, hx4, hx5, hx6, hx7, hx8, hy0, hy1, hy2, hy3, hy4, hy5, hy6, hy7, hy8⟩ := KK.out w3 hch23.out))
        all_goals
          go_wp2_with (fail)
          go_roundw
          case rel => exact ⟨k + 1, by omega, by go_num, HYY.out, hch.trans (show Chg [] wr _ from (by repeat' (first | (with_reducible assumption) | (with_reducible exact Chg.refl _ _) | (with_reducible refine Chg.alloc ?_ _) | (with_reducible refine Chg.drewN ?_ _) | (with_reducible refine Chg.drew ?_) | (with_reducible refine Chg.strW ?_ _ _) | (with_reducible refine Chg.t0 ?_ (by with_reducible assumption))))) (by simp)⟩
          case measure => simp [intOf]; omega
    · obtain rfl : k = xs.length := by omega
      have hst : s = true := by
        rw [← Hs.out]
        refine sameLs_iff.2 (List.ext_getElem (by simpa using Hlen.out) fun j h1 h2 => ?_)
        simp only [List.getElem_map]
        exact HI.out j (by simpa using h1) (by simpa using h2) (by simpa using h1)
      subst hst
      go_wp2_with (fail)
      go_ret
      exact ⟨rfl, hch⟩

set_option maxRecDepth 100000 in
set_option maxHeartbeats 6400000 in
theorem words_to (w : World) (k o q sm sc fm fc k' o' q' sm' sc' fm' fc' : Int) (A B : Option Addr) (n m c d : Nat) (xs ys : List RcV) (s : Bool) (hs : sameWd ⟨k, o, q, sm, sc, fm, fc, xs.map RcV.r⟩ ⟨k', o', q', sm', sc', fm', fc', ys.map RcV.r⟩ = s) (hn : xs.length = n) (hm : ys.length = m) (hx : Rd w 9 A xs.length (cRc xs)) (hy : Rd w 9 B ys.length (cRc ys))
    (hxs : ∀ x ∈ xs, Rd w 1 x.A x.r.val.length (cB x.r.val)) (hys : ∀ x ∈ ys, Rd w 1 x.A x.r.val.length (cB x.r.val)) (hl : xs.length ≤ 1099511627776) :
    Calls Try.prog 13 #[.agg #[.int .i64 k, .int .i64 o, .int .i64 q, .int .i64 sm, .int .i64 sc, .int .i64 fm, .int .i64 fc, .slice A n c], .agg #[.int .i64 k', .int .i64 o', .int .i64 q', .int .i64 sm', .int .i64 sc', .int .i64 fm', .int .i64 fc', .slice B m d]] w fun e w' => e = .returned (.bool s) ∧ Chg [] w w' := by
  have hno : ¬ (k = k' ∧ o = o' ∧ q = q' ∧ sm = sm' ∧ sc = sc' ∧ fm = fm' ∧ fc = fc') → s = false := fun h => by
    rw [← hs]
    cases hb : sameWd ⟨k, o, q, sm, sc, fm, fc, xs.map RcV.r⟩ ⟨k', o', q', sm', sc', fm', fc', ys.map RcV.r⟩ with
    | false => rfl
    | true =>
      have h1 := sameWd_iff.1 hb
      simp only [Wd.mk.injEq] at h1
      exact absurd ⟨h1.1, h1.2.1, h1.2.2.1, h1.2.2.2.1, h1.2.2.2.2.1, h1.2.2.2.2.2.1, h1.2.2.2.2.2.2.1⟩ h
  have h0 := fun (a b : Value) => ((Chg.refl [] w).alloc (.cells #[.int .i64 k, .int .i64 o, .int .i64 q, .int .i64 sm, .int .i64 sc, .int .i64 fm, .int .i64 fc, .slice A n c] 26)).alloc (.cells #[.int .i64 k', .int .i64 o', .int .i64 q', .int .i64 sm', .int .i64 sc', .int .i64 fm', .int .i64 fc', .slice B m d] 26)
  by_cases ek : k = k'
  rotate_left
  · obtain rfl := hno (by intro h; exact ek (by have := h; simp_all))
    clear hno hs hn hm hx hy hxs hys
    go_enter Try.func13, Try.ntmps13
    go_wp2_with (fail)
    go_ret
    exact ⟨rfl, h0 undef undef⟩
  subst ek
  by_cases eo : o = o'
  rotate_left
  · obtain rfl := hno (by intro h; exact eo (by have := h; simp_all))
    clear hno hs hn hm hx hy hxs hys
    go_enter Try.func13, Try.ntmps13
    go_wp2_with (fail)
    go_ret
    exact ⟨rfl, h0 undef undef⟩
  subst eo
  by_cases eq : q = q'
  rotate_left
  · obtain rfl := hno (by intro h; exact eq (by have := h; simp_all))
    clear hno hs hn hm hx hy hxs hys
    go_enter Try.func13, Try.ntmps13
    go_wp2_with (fail)
    go_ret
    exact ⟨rfl, h0 undef undef⟩
  subst eq
  by_cases esm : sm = sm'
  rotate_left
  · obtain rfl := hno (by intro h; exact esm (by have := h; simp_all))
    clear hno hs hn hm hx hy hxs hys
    go_enter Try.func13, Try.ntmps13
    go_wp2_with (fail)
    go_ret
    exact ⟨rfl, h0 undef undef⟩
  subst esm
  by_cases esc : sc = sc'
  rotate_left
  · obtain rfl := hno (by intro h; exact esc (by have := h; simp_all))
    clear hno hs hn hm hx hy hxs hys
    go_enter Try.func13, Try.ntmps13
    go_wp2_with (fail)
    go_ret
    exact ⟨rfl, h0 undef undef⟩
  subst esc
  by_cases efm : fm = fm'
  rotate_left
  · obtain rfl := hno (by intro h; exact efm (by have := h; simp_all))
    clear hno hs hn hm hx hy hxs hys
    go_enter Try.func13, Try.ntmps13
    go_wp2_with (fail)
    go_ret
    exact ⟨rfl, h0 undef undef⟩
  subst efm
  by_cases efc : fc = fc'
  rotate_left
  · obtain rfl := hno (by intro h; exact efc (by have := h; simp_all))
    clear hno hs hn hm hx hy hxs hys
    go_enter Try.func13, Try.ntmps13
    go_wp2_with (fail)
    go_ret
    exact ⟨rfl, h0 undef undef⟩
  subst efc
  have hs' : sameLs (xs.map RcV.r) (ys.map RcV.r) = s := by rw [← hs]; simp [sameWd]
  have HC := Lib.hid (fun w' (hc : Chg [] w w') => records_to w' A B n m c d xs ys s hs' hn hm (hx.keep0 hc) (hy.keep0 hc) (fun x hx => (hxs x hx).keep0 hc) (fun x hx => (hys x hx).keep0 hc) hl)
  clear hs' hs hno hn hm hx hy hxs hys hl
  have h0 := h0 undef undef
  go_enter Try.func13, Try.ntmps13
  go_wp2_with (fail)
  refine (HC.out _ h0).mono ?_
  rintro e w1 ⟨rfl, hch1⟩
  go_wp2_with (fail)
  go_ret
  exact ⟨rfl, h0.trans hch1 (by simp)⟩
end Go.Proofs.Ytkdbjhmffnjimaa
