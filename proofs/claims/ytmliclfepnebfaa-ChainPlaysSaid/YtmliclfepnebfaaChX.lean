
/-
  chain: what the laws ask of versions: heavy, versions.
-/
import Derived.Test.YtmliclfepnebfaaChU
namespace Go.Proofs.Ytmliclfepnebfaa
open Go.RowKit
set_option linter.unusedVariables false
set_option linter.unusedSimpArgs false
/-- 'heavy' is told: where it says no, versions are no more than is looked at. -/
def HeavyV (ls : List VrV) (w : World) (e : Ending) (w' : World) : Prop := ∃ hv : Bool, e = .returned (.bool hv) ∧ (hv = false → 30 * ls.length + (ls.map fun x => x.val.length).sum ≤ 8000) ∧ Chg [] w w'
set_option maxRecDepth 100000 in
set_option maxHeartbeats 1800000 in
theorem heavyV_any (w : World) (A : Option Addr) (c : Nat) (ls : List VrV) (hr : Rd w 6 A ls.length (cVr ls)) (hls : ls.length ≤ 140737488351232) (hbs : ∀ x ∈ ls, x.val.length ≤ 140737488351232) :
    Calls Try.prog 10 #[.slice A ls.length c] w (HeavyV ls w) := by
  have HB := Lib.hid hbs
  have HR := Lib.hid hr
  clear hbs hr
  go_enter Try.func10, Try.ntmps10
  go_wp2_with (fail)
  go_loopw [4, 3] (fun i m wr => ∃ k x : Nat, k ≤ ls.length ∧ i = .int .i64 k ∧ m = .int .i64 x ∧ x ≤ 8000 ∧ Hid (x = 30 * k + ((ls.take k).map fun x => x.val.length).sum) ∧ Chg [] w wr) (fun i _ _ => ls.length - (intOf i).toNat)
  case atStart => exact ⟨0, 0, Nat.zero_le _, rfl, rfl, by omega, by simp [Hid], Chg.refl _ _⟩
  case round =>
    obtain ⟨k, x, hk, rfl, rfl, hx, HX, hch⟩ := hrel
    by_cases hlt : k < ls.length
    · obtain ⟨ad, rfl, had, hc0, hc⟩ := (HR.out.keep0 hch).getV hlt
      have hrb := HB.out _ (List.getElem_mem hlt)
      have HT : Hid (((ls.take (k + 1)).map fun x => x.val.length).sum = ((ls.take k).map fun x => x.val.length).sum + ls[k].val.length) := by
        unfold Hid; rw [List.take_succ_eq_append_getElem hlt, List.map_append, List.sum_append]; simp
      have hc3 := hc 3 _ (by omega) rfl
      generalize ls[k] = r at *
      clear hc hc0
      obtain ⟨m, q, o, A', d, p, g, t⟩ := r
      simp only at hc3 HT hrb
      have hki : (k : Int) < (ls.length : Int) := by omega
      by_cases h5 : 8000 < x + 30 + d.length
      · have h5i : (8000 : Int) < (x : Int) + 30 + (d.length : Int) := by omega
        go_wp2_with (fail)
        go_ret
        exact ⟨true, rfl, by simp, by first | exact hch.drewN _ | exact hch⟩
      · have h5i : ¬ (8000 : Int) < (x : Int) + 30 + (d.length : Int) := by omega
        go_wp2_with (fail)
        go_roundw
        case rel => exact ⟨k + 1, x + 30 + d.length, by omega, by go_num, by go_num, by omega, by unfold Hid; rw [HT.out, HX.out]; omega, by first | exact hch.drewN _ | exact hch⟩
        case measure => simp [intOf]; omega
    · obtain rfl : k = ls.length := by omega
      have hki : ¬ (ls.length : Int) < (ls.length : Int) := by omega
      go_wp2_with (fail)
      go_ret
      refine ⟨false, rfl, fun _ => ?_, hch⟩
      have h := HX.out
      rw [List.take_length] at h
      omega
theorem sumV_mem {ls : List VrV} {f : VrV → Nat} {x : VrV} (h : x ∈ ls) : f x ≤ (ls.map f).sum := by
  induction ls with
  | nil => cases h
  | cons a l ih =>
    simp only [List.map_cons, List.sum_cons]
    rcases List.mem_cons.1 h with rfl | h
    · omega
    · have := ih h; omega
theorem sameVB_refl (v : VV) : sameVB v.m v.c v.o v.d v.g v.t v.m v.c v.o v.d v.g v.t = true := by simp [sameVB]
set_option maxRecDepth 100000 in
set_option maxHeartbeats 6400000 in
/-- Rows of the same versions. -/
theorem versions_eq (w : World) (A : Option Addr) (c : Nat) (xs : List VrV) (B : Option Addr) (c2 : Nat) (ys : List VrV) (hxy : xs.map VrV.v = ys.map VrV.v) (hx : Rd w 6 A xs.length (cVr xs)) (hy : Rd w 6 B ys.length (cVr ys))
    (dx : ∀ m ∈ xs, Rd w 1 m.A m.val.length (cB m.val)) (dy : ∀ m ∈ ys, Rd w 1 m.A m.val.length (cB m.val)) (hl : xs.length ≤ 1000000) :
    Calls Try.prog 29 #[.slice A xs.length c, .slice B ys.length c2] w fun e w' => e = .returned (.bool true) ∧ Chg [] w w' := by
  have hlen : ys.length = xs.length := by have := congrArg List.length hxy; simpa using this.symm
  have hli : ((xs.length : Int) != (ys.length : Int)) = false := by rw [hlen]; simp
  have HLE := Lib.hid hlen
  clear hlen
  have HX := Lib.hid hx
  have HY := Lib.hid hy
  have DX := Lib.hid dx
  have DY := Lib.hid dy
  have HE := Lib.hid hxy
  clear hx hy dx dy hxy
  go_enter Try.func29, Try.ntmps29
  go_wp2_with (fail)
  go_loopw [5] (fun i wr => ∃ k : Nat, k ≤ xs.length ∧ i = .int .i64 k ∧ Chg [] w wr) (fun i _ => xs.length - (intOf i).toNat)
  case atStart => exact ⟨0, Nat.zero_le _, rfl, Chg.refl _ _⟩
  case round =>
    obtain ⟨k, hk, rfl, hch⟩ := hrel
    by_cases hlt : k < xs.length
    · have hlt2 : k < ys.length := by rw [HLE.out]; exact hlt
      have hki : (k : Int) < (xs.length : Int) := by omega
      have hki2 : (k : Int) < (ys.length : Int) := by omega
      have hk0 : (0 : Int) ≤ (k : Int) := by omega
      have hvv : (xs[k]).v = (ys[k]).v := by
        have h1 : (xs.map VrV.v)[k]? = (ys.map VrV.v)[k]? := by rw [HE.out]
        rw [List.getElem?_map, List.getElem?_map, List.getElem?_eq_getElem hlt, List.getElem?_eq_getElem hlt2] at h1
        simpa using h1
      have hss := sameVB_refl (xs[k]).v
      have HS : Hid (sameVB (xs[k]).v.m (xs[k]).v.c (xs[k]).v.o (xs[k]).v.d (xs[k]).v.g (xs[k]).v.t (ys[k]).v.m (ys[k]).v.c (ys[k]).v.o (ys[k]).v.d (ys[k]).v.g (ys[k]).v.t = true) := by rw [← hvv]; exact hss
      have HDX := Lib.hid ((DX.out _ (List.getElem_mem hlt)).keep0 hch)
      have HDY := Lib.hid ((DY.out _ (List.getElem_mem hlt2)).keep0 hch)
      obtain ⟨ad, hAd, had, hc0, hc⟩ := (HX.out.keep0 hch).getV hlt
      obtain ⟨bd, hBd, hbd, hd0, hd⟩ := (HY.out.keep0 hch).getV hlt2
      have hc1 := hc 1 _ (by omega) rfl
      have hc2 := hc 2 _ (by omega) rfl
      have hc3 := hc 3 _ (by omega) rfl
      have hc4 := hc 4 _ (by omega) rfl
      have hc5 := hc 5 _ (by omega) rfl
      have hd1 := hd 1 _ (by omega) rfl
      have hd2 := hd 2 _ (by omega) rfl
      have hd3 := hd 3 _ (by omega) rfl
      have hd4 := hd 4 _ (by omega) rfl
      have hd5 := hd 5 _ (by omega) rfl
      clear hvv hss
      generalize xs[k] = x at *
      generalize ys[k] = y at *
      clear hc hd
      subst hAd hBd
      obtain ⟨m, q, o, A1, d, p, g, t⟩ := x
      obtain ⟨m', q', o', A2, d', p', g', t'⟩ := y
      simp only [VrV.v] at hc0 hc1 hc2 hc3 hc4 hc5 hd0 hd1 hd2 hd3 hd4 hd5 HS HDX HDY
      have KK : Hid (∀ w', Chg [] wr w' → w'.cell? (ad.add (k * 6)) = some (.int .i64 m) ∧ w'.cell? ⟨(ad.add (k * 6)).block, (ad.add (k * 6)).off + 1, none⟩ = some (.int .i64 q) ∧ w'.cell? ⟨(ad.add (k * 6)).block, (ad.add (k * 6)).off + 2, none⟩ = some (.int .i64 o) ∧ w'.cell? ⟨(ad.add (k * 6)).block, (ad.add (k * 6)).off + 3, none⟩ = some (.slice A1 d.length p) ∧ w'.cell? ⟨(ad.add (k * 6)).block, (ad.add (k * 6)).off + 4, none⟩ = some (.bool g) ∧ w'.cell? ⟨(ad.add (k * 6)).block, (ad.add (k * 6)).off + 5, none⟩ = some (.int .i64 t) ∧ w'.cell? (bd.add (k * 6)) = some (.int .i64 m') ∧ w'.cell? ⟨(bd.add (k * 6)).block, (bd.add (k * 6)).off + 1, none⟩ = some (.int .i64 q') ∧ w'.cell? ⟨(bd.add (k * 6)).block, (bd.add (k * 6)).off + 2, none⟩ = some (.int .i64 o') ∧ w'.cell? ⟨(bd.add (k * 6)).block, (bd.add (k * 6)).off + 3, none⟩ = some (.slice A2 d'.length p') ∧ w'.cell? ⟨(bd.add (k * 6)).block, (bd.add (k * 6)).off + 4, none⟩ = some (.bool g') ∧ w'.cell? ⟨(bd.add (k * 6)).block, (bd.add (k * 6)).off + 5, none⟩ = some (.int .i64 t')) := fun w' hc =>
        ⟨(hc.cell (by rw [add_block]; exact had) (by simp)).trans hc0, (hc.cell (p := ⟨(ad.add (k * 6)).block, (ad.add (k * 6)).off + 1, none⟩) (by show (ad.add (k * 6)).block < _; rw [add_block]; exact had) (by simp)).trans hc1, (hc.cell (p := ⟨(ad.add (k * 6)).block, (ad.add (k * 6)).off + 2, none⟩) (by show (ad.add (k * 6)).block < _; rw [add_block]; exact had) (by simp)).trans hc2, (hc.cell (p := ⟨(ad.add (k * 6)).block, (ad.add (k * 6)).off + 3, none⟩) (by show (ad.add (k * 6)).block < _; rw [add_block]; exact had) (by simp)).trans hc3, (hc.cell (p := ⟨(ad.add (k * 6)).block, (ad.add (k * 6)).off + 4, none⟩) (by show (ad.add (k * 6)).block < _; rw [add_block]; exact had) (by simp)).trans hc4, (hc.cell (p := ⟨(ad.add (k * 6)).block, (ad.add (k * 6)).off + 5, none⟩) (by show (ad.add (k * 6)).block < _; rw [add_block]; exact had) (by simp)).trans hc5, (hc.cell (by rw [add_block]; exact hbd) (by simp)).trans hd0, (hc.cell (p := ⟨(bd.add (k * 6)).block, (bd.add (k * 6)).off + 1, none⟩) (by show (bd.add (k * 6)).block < _; rw [add_block]; exact hbd) (by simp)).trans hd1, (hc.cell (p := ⟨(bd.add (k * 6)).block, (bd.add (k * 6)).off + 2, none⟩) (by show (bd.add (k * 6)).block < _; rw [add_block]; exact hbd) (by simp)).trans hd2, (hc.cell (p := ⟨(bd.add (k * 6)).block, (bd.add (k * 6)).off + 3, none⟩) (by show (bd.add (k * 6)).block < _; rw [add_block]; exact hbd) (by simp)).trans hd3, (hc.cell (p := ⟨(bd.add (k * 6)).block, (bd.add (k * 6)).off + 4, none⟩) (by show (bd.add (k * 6)).block < _; rw [add_block]; exact hbd) (by simp)).trans hd4, (hc.cell (p := ⟨(bd.add (k * 6)).block, (bd.add (k * 6)).off + 5, none⟩) (by show (bd.add (k * 6)).block < _; rw [add_block]; exact hbd) (by simp)).trans hd5⟩
      clear hc0 hc1 hc2 hc3 hc4 hc5 hd0 hd1 hd2 hd3 hd4 hd5
      go_upto_region 6 with (fail)
      refine wp_region_held_drew (S := fun w' => w'.cell? (ad.add (k * 6)) = some (.int .i64 m) ∧ w'.cell? ⟨(ad.add (k * 6)).block, (ad.add (k * 6)).off + 1, none⟩ = some (.int .i64 q) ∧ w'.cell? ⟨(ad.add (k * 6)).block, (ad.add (k * 6)).off + 2, none⟩ = some (.int .i64 o) ∧ w'.cell? ⟨(ad.add (k * 6)).block, (ad.add (k * 6)).off + 3, none⟩ = some (.slice A1 d.length p) ∧ w'.cell? ⟨(ad.add (k * 6)).block, (ad.add (k * 6)).off + 4, none⟩ = some (.bool g) ∧ w'.cell? ⟨(ad.add (k * 6)).block, (ad.add (k * 6)).off + 5, none⟩ = some (.int .i64 t) ∧ w'.cell? (bd.add (k * 6)) = some (.int .i64 m') ∧ w'.cell? ⟨(bd.add (k * 6)).block, (bd.add (k * 6)).off + 1, none⟩ = some (.int .i64 q') ∧ w'.cell? ⟨(bd.add (k * 6)).block, (bd.add (k * 6)).off + 2, none⟩ = some (.int .i64 o') ∧ w'.cell? ⟨(bd.add (k * 6)).block, (bd.add (k * 6)).off + 3, none⟩ = some (.slice A2 d'.length p') ∧ w'.cell? ⟨(bd.add (k * 6)).block, (bd.add (k * 6)).off + 4, none⟩ = some (.bool g') ∧ w'.cell? ⟨(bd.add (k * 6)).block, (bd.add (k * 6)).off + 5, none⟩ = some (.int .i64 t')) (by kernel_rfl) ?_ (fun hHeld => ?_)
      · exact KK.out _ ((Chg.refl [] wr).drewN 1)
      refine takeW (i := 0) (d := (some 17)) (v := ?_) rfl rfl (by kernel_rfl) (by kernel_rfl) (by kernel_rfl) (fun _ _ _ h => h) (by rfl) ?_ (by assumption) ?_
      rotate_left
      · intro w' hSw; (try dsimp only at hSw); go_simp; try with_reducible rfl
      try simp only [Act.put, List.setIfInBounds_toArray, List.set_cons_zero, List.set_cons_succ]
      refine takeW (i := 1) (d := (some 18)) (v := ?_) rfl rfl (by kernel_rfl) (by kernel_rfl) (by kernel_rfl) (fun _ _ _ h => h) (by rfl) ?_ (by assumption) ?_
      rotate_left
      · intro w' hSw; (try dsimp only at hSw); go_simp; try with_reducible rfl
      try simp only [Act.put, List.setIfInBounds_toArray, List.set_cons_zero, List.set_cons_succ]
      refine takeW (i := 2) (d := (some 19)) (v := ?_) rfl rfl (by kernel_rfl) (by kernel_rfl) (by kernel_rfl) (fun _ _ _ h => h) (by rfl) ?_ (by assumption) ?_
      rotate_left
      · intro w' hSw; (try dsimp only at hSw); go_simp; try with_reducible rfl
      try simp only [Act.put, List.setIfInBounds_toArray, List.set_cons_zero, List.set_cons_succ]
      refine takeW (i := 3) (d := (some 20)) (v := ?_) rfl rfl (by kernel_rfl) (by kernel_rfl) (by kernel_rfl) (fun _ _ _ h => h) (by rfl) ?_ (by assumption) ?_
      rotate_left
      · intro w' hSw; (try dsimp only at hSw); go_simp; try with_reducible rfl
      try simp only [Act.put, List.setIfInBounds_toArray, List.set_cons_zero, List.set_cons_succ]
      refine takeW (i := 4) (d := (some 21)) (v := ?_) rfl rfl (by kernel_rfl) (by kernel_rfl) (by kernel_rfl) (fun _ _ _ h => h) (by rfl) ?_ (by assumption) ?_
      rotate_left
      · intro w' hSw; (try dsimp only at hSw); go_simp; try with_reducible rfl
      try simp only [Act.put, List.setIfInBounds_toArray, List.set_cons_zero, List.set_cons_succ]
      refine takeW (i := 5) (d := (some 22)) (v := ?_) rfl rfl (by kernel_rfl) (by kernel_rfl) (by kernel_rfl) (fun _ _ _ h => h) (by rfl) ?_ (by assumption) ?_
      rotate_left
      · intro w' hSw; (try dsimp only at hSw); go_simp; try with_reducible rfl
      try simp only [Act.put, List.setIfInBounds_toArray, List.set_cons_zero, List.set_cons_succ]
      refine takeW (i := 6) (d := (some 23)) (v := ?_) rfl rfl (by kernel_rfl) (by kernel_rfl) (by kernel_rfl) (fun _ _ _ h => h) (by rfl) ?_ (by assumption) ?_
      rotate_left
      · intro w' hSw; (try dsimp only at hSw); go_simp; try with_reducible rfl
      try simp only [Act.put, List.setIfInBounds_toArray, List.set_cons_zero, List.set_cons_succ]
      refine takeW (i := 7) (d := (some 24)) (v := ?_) rfl rfl (by kernel_rfl) (by kernel_rfl) (by kernel_rfl) (fun _ _ _ h => h) (by rfl) ?_ (by assumption) ?_
      rotate_left
      · intro w' hSw; (try dsimp only at hSw); go_simp; try with_reducible rfl
      try simp only [Act.put, List.setIfInBounds_toArray, List.set_cons_zero, List.set_cons_succ]
      refine wpAnyH_ready (rs := [8]) (by kernel_rfl) (by simp) ?_
      refine AllReadyH.cons rfl (fun K hK => ?_) AllReadyH.nil
      go_simp
      go_at_call 25
      (with_reducible refine (refSameV_any _ m q o A1 d p g t m' q' o' A2 d' p' g' t' (HDX.out.keep0 ((by repeat' (first | (with_reducible assumption) | (with_reducible exact Chg.refl _ _) | (with_reducible refine Chg.alloc ?_ _) | (with_reducible refine Chg.drewN ?_ _) | (with_reducible refine Chg.drew ?_) | (with_reducible refine Chg.strW ?_ _ _) | (with_reducible refine Chg.t0 ?_ (by with_reducible assumption)))) : Chg [] wr _)) (HDY.out.keep0 ((by repeat' (first | (with_reducible assumption) | (with_reducible exact Chg.refl _ _) | (with_reducible refine Chg.alloc ?_ _) | (with_reducible refine Chg.drewN ?_ _) | (with_reducible refine Chg.drew ?_) | (with_reducible refine Chg.strW ?_ _ _) | (with_reducible refine Chg.t0 ?_ (by with_reducible assumption)))) : Chg [] wr _))).mono ?_)
      rintro e w3 ⟨rfl, hch3⟩
      rw [HS.out]
      have hch23 : Hid (Chg [] wr w3) := ((by repeat' (first | (with_reducible assumption) | (with_reducible exact Chg.refl _ _) | (with_reducible refine Chg.alloc ?_ _) | (with_reducible refine Chg.drewN ?_ _) | (with_reducible refine Chg.drew ?_) | (with_reducible refine Chg.strW ?_ _ _) | (with_reducible refine Chg.t0 ?_ (by with_reducible assumption)))) : Chg [] wr w3)
      go_wp2_with (fail)
      refine hK.out _ _ ?_ (fun hHeld => ?_)
      · first | exact KK.out _ hch23.out | (dsimp only; exact KK.out _ hch23.out)
      clear hK K
      try simp only [Act.put, List.setIfInBounds_toArray, List.set_cons_zero, List.set_cons_succ]
      refine takeW (i := 9) (d := (some 26)) (v := ?_) rfl rfl (by kernel_rfl) (by kernel_rfl) (by kernel_rfl) (fun _ _ _ h => h) (by rfl) ?_ (by assumption) ?_
      rotate_left
      · intro w' hSw; (try dsimp only at hSw); go_simp; try with_reducible rfl
      try simp only [Act.put, List.setIfInBounds_toArray, List.set_cons_zero, List.set_cons_succ]
      refine wpAnyH_done (by kernel_rfl) ?_ _
      go_wp2_with (fail)
      go_roundw
      case rel => exact ⟨k + 1, by omega, by go_num, hch.trans hch23.out (by simp)⟩
      case measure => simp [intOf]; omega
    · obtain rfl : k = xs.length := by omega
      have hki : ¬ (xs.length : Int) < (xs.length : Int) := by omega
      go_wp2_with (fail)
      go_ret
      exact ⟨rfl, hch⟩
end Go.Proofs.Ytmliclfepnebfaa
