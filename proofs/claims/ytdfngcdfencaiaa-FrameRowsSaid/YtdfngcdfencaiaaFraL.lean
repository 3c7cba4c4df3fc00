
/-
  Chapter 11's laws: their own small functions.
-/
import Derived.Test.YtdfngcdfencaiaaFraS
import Derived.Test.YtdfngcdfencaiaaMask
import Derived.Deep.RegionHeld3
namespace Go.Proofs.Ytdfngcdfencaiaa
open Go.RowKit
set_option linter.unusedVariables false

theorem same_to (w : World) (A B : Option Addr) (n m c d : Nat) (xs ys : List UInt8) (s : Bool) (hs : decide (xs = ys) = s) (hn : xs.length = n) (hm : ys.length = m) (hx : Rd w 1 A xs.length (cB xs)) (hy : Rd w 1 B ys.length (cB ys)) (hl : xs.length ≤ 140737488355328) :
    Calls Try.prog 12 #[.slice A n c, .slice B m d] w fun e w' => e = .returned (.bool s) ∧ Chg [] w w' := by
  subst hs
  exact same_any w A B n m c d xs ys hn hm hx hy hl
theorem decF_known : decF (encF [120] ++ [1]) = ⟨[120], 13, 0⟩ := decF_enc (by simp) _

set_option maxRecDepth 100000 in
set_option maxHeartbeats 1600000 in
theorem knownF_any (w : World) : Calls Try.prog 10 #[] w fun e w' => e = .returned (.bool true) ∧ Chg [] w w' := by
  obtain ⟨i0, hi, hz0, hz1, hz2⟩ := info_parts info8
  have kc := fun (w : World) (C : Array Value) (n c : Nat) => Lib.run_convert_bytes_const (P := Try.prog) w 22 5 C n c Try.underlying22 Try.underlying5
  go_enter Try.func10, Try.ntmps10
  go_wp2_with (fail)
  (with_reducible refine (frEncode_any _ _ 1 1 [⟨some ⟨w.heap.size, 0, none⟩, 1, [120]⟩] [120] (by simp [Hid]) rfl ?_ ?_ (by simp) (by simp) (by simp)).mono ?_)
  · exact Rd.new' (by simp) rfl rfl
  · intro r hr
    obtain rfl := List.mem_singleton.1 hr
    exact (Rd.new' (l := cB [120]) rfl rfl rfl).alloc _
  rintro e w1 ⟨A1, c1, rfl, r1, hc1, hb1, hch1, ho1⟩
  have l1 : Hid ((encF [120]).length = 13) := by unfold Hid; rw [encF_len]; rfl
  obtain ⟨E, hE⟩ : ∃ E, Hid (encF [120] = E) := ⟨_, rfl⟩
  rw [hE.out] at l1 r1 ho1 hb1 hc1 ⊢
  rw [l1.out] at r1 ho1 hb1 hc1 ⊢
  have hsz := hch1.size
  simp at hsz
  go_wp2_with (at_builtin; refine wpList_append_new _ rfl (.tmp 14) (.tmp 15) 22 (by rfl) w.heap.size 5 i0 _ 1 Try.underlying22 hi hz0 hz1 hz2 rfl A1 13 c1 (cB E) (by rfl) (r1.alloc _) (ho1.imp id (fun h => (own_up h (by simp; omega)).alloc _)) ⟨w1.heap.size, 0, none⟩ 1 1 [.int .u8 1] (by rfl) (Rd.new' rfl rfl rfl) (by omega) (by simp [Value.oneCell']) (by unfold maxLen; omega) (by omega) (by simp; omega) ?_; rintro A2 c2 w2 hown2 ⟨T, hchT, hT⟩)
  have hch2 : Hid (Chg [] w w2) := ((((Chg.refl [] w).alloc _).alloc _).trans hch1 (by simp) |>.alloc _).trans hchT (fun k hk => .inr (hT k hk).1)
  have r2 : Rd w2 1 A2 14 (cB (E ++ [1])) := by rw [cB_app]; exact Rd.of_own hown2
  have l2 : Hid ((E ++ [1]).length = 14) := by unfold Hid; rw [List.length_append, l1.out]; rfl
  have hc2 := own_cap hown2
  have hk : Hid (decF (E ++ [1]) = ⟨[120], 13, 0⟩) := by unfold Hid; rw [← hE.out]; exact decF_known
  have HD := Lib.hid (frDecode_any w2 A2 14 c2 (E ++ [1]) l2.out (by rw [l2.out]; exact r2) (by rw [l2.out]; exact hc2) (by rw [l2.out]; omega))
  rw [hk.out] at HD
  clear hown2 hchT hT r1 ho1 hb1 hc1 hc2 r2
  go_wp2_with (fail)
  refine HD.out.mono ?_
  rintro e w3 ⟨A3, c3, rfl, hown3, hch3⟩
  simp only at hown3 ⊢
  go_wp2_with (fail)
  (with_reducible refine (same_to _ _ _ 1 1 _ _ [120] [120] true (by decide) rfl rfl ?_ ?_ (by simp)).mono ?_)
  · exact (Rd.of_own hown3).alloc _
  · exact Rd.new' rfl rfl rfl
  rintro e w4 ⟨rfl, hch4⟩
  go_wp2_with (fail)
  go_ret
  exact ⟨rfl, hch2.out.trans (hch3.trans (show Chg [] w3 _ from (by repeat' (first | (with_reducible assumption) | (with_reducible exact Chg.refl _ _) | (with_reducible refine Chg.alloc ?_ _) | (with_reducible refine Chg.drewN ?_ _) | (with_reducible refine Chg.drew ?_) | (with_reducible refine Chg.strW ?_ _ _) | (with_reducible refine Chg.t0 ?_ (by with_reducible assumption))))) (by simp)) (by simp)⟩

set_option maxRecDepth 100000 in
set_option maxHeartbeats 1600000 in
theorem rows_yes (w : World) (A B : Option Addr) (n m c d : Nat) (xs ys : List SlB) (h : xs.map SlB.bs = ys.map SlB.bs) (hn : xs.length = n) (hm : ys.length = m) (hx : Rd w 1 A xs.length (cR xs)) (hy : Rd w 1 B ys.length (cR ys))
    (hxs : ∀ r ∈ xs, RdB w r ∧ r.bs.length ≤ 1099511627776) (hys : ∀ r ∈ ys, RdB w r) (hl : xs.length ≤ 1099511627776) :
    Calls Try.prog 15 #[.slice A n c, .slice B m d] w fun e w' => e = .returned (.bool true) ∧ Chg [] w w' := by
  subst hn hm
  have hlen : xs.length = ys.length := by have := congrArg List.length h; simpa using this
  have HX := Lib.hid hx
  have HY := Lib.hid hy
  have HXS := Lib.hid hxs
  have HYS := Lib.hid hys
  have H := Lib.hid h
  have hb : ((xs.length : Int) != (ys.length : Int)) = false := by rw [hlen]; simp
  have Hlen := Lib.hid hlen
  clear hx hy hxs hys h hlen
  go_enter Try.func15, Try.ntmps15
  go_wp2_with (fail)
  clear hb
  go_loopw [5] (fun i wr => ∃ k : Nat, k ≤ xs.length ∧ i = .int .i64 k ∧ Chg [] w wr) (fun i _ => xs.length - (intOf i).toNat)
  case atStart => exact ⟨0, Nat.zero_le _, rfl, Chg.refl _ _⟩
  case round =>
    obtain ⟨k, hk, rfl, hch⟩ := hrel
    by_cases hlt : k < xs.length
    · have hlt2 : k < ys.length := by have := Hlen.out; omega
      obtain ⟨ad, u, rfl, had, hu, hc⟩ := (HX.out.keep0 hch).get hlt
      obtain ⟨ad2, u2, rfl, had2, hu2, hc2⟩ := (HY.out.keep0 hch).get hlt2
      rw [cR_get hlt] at hu
      rw [cR_get hlt2] at hu2
      have HM := Lib.hid (HXS.out _ (List.getElem_mem hlt))
      have HM2 := Lib.hid (HYS.out _ (List.getElem_mem hlt2))
      have HE : Hid (xs[k].bs = ys[k].bs) := by
        have h1 := congrArg (fun l => l[k]?) H.out
        simp only [List.getElem?_map, List.getElem?_eq_getElem hlt, List.getElem?_eq_getElem hlt2, Option.map_some, Option.some.injEq] at h1
        exact h1
      generalize xs[k] = x at *
      generalize ys[k] = y at *
      obtain rfl : Value.slice x.A x.bs.length x.c = u := by simpa using hu
      obtain rfl : Value.slice y.A y.bs.length y.c = u2 := by simpa using hu2
      clear hu hu2
      obtain ⟨xA, xc, xb⟩ := x
      obtain ⟨yA, yc, yb⟩ := y
      simp only at hc hc2 HE
      have HR1 : Hid (Rd wr 1 xA xb.length (cB xb)) := (HM.out.1).keep0 hch
      have HR2 : Hid (Rd wr 1 yA yb.length (cB yb)) := HM2.out.keep0 hch
      have hxl : xb.length ≤ 1099511627776 := HM.out.2
      have hki : (k : Int) < (xs.length : Int) := by omega
      have hki2 : (k : Int) < (ys.length : Int) := by omega
      clear HM HM2
      go_wp2_with (fail)
      go_region_held3 (fun w' => w'.cell? (ad.add k) = some (.slice xA xb.length xc) ∧ w'.cell? (ad2.add k) = some (.slice yA yb.length yc)) (first | go_keep | fail)
        (first
          | (go_simp; go_at_call 12; (with_reducible refine (same_to _ _ _ _ _ _ _ xb yb true (decide_eq_true HE.out) rfl rfl (Rd.k0 HR1.out (by repeat' (first | (with_reducible assumption) | (with_reducible exact Chg.refl _ _) | (with_reducible refine Chg.alloc ?_ _) | (with_reducible refine Chg.drewN ?_ _) | (with_reducible refine Chg.drew ?_) | (with_reducible refine Chg.strW ?_ _ _) | (with_reducible refine Chg.t0 ?_ (by with_reducible assumption))))) (Rd.k0 HR2.out (by repeat' (first | (with_reducible assumption) | (with_reducible exact Chg.refl _ _) | (with_reducible refine Chg.alloc ?_ _) | (with_reducible refine Chg.drewN ?_ _) | (with_reducible refine Chg.drew ?_) | (with_reducible refine Chg.strW ?_ _ _) | (with_reducible refine Chg.t0 ?_ (by with_reducible assumption))))) (by omega)).mono ?_); rintro e w3 ⟨rfl, hch3⟩; have hch23 : Hid (Chg [] wr w3) := ((by repeat' (first | (with_reducible assumption) | (with_reducible exact Chg.refl _ _) | (with_reducible refine Chg.alloc ?_ _) | (with_reducible refine Chg.drewN ?_ _) | (with_reducible refine Chg.drew ?_) | (with_reducible refine Chg.strW ?_ _ _) | (with_reducible refine Chg.t0 ?_ (by with_reducible assumption)))) : Chg [] wr w3); have hc5 := (hch23.out.cell (p := ad.add k) (by rw [add_block]; exact had) (by simp)).trans hc; have hc6 := (hch23.out.cell (p := ad2.add k) (by rw [add_block]; exact had2) (by simp)).trans hc2))
      all_goals
        go_wp2_with (fail)
        go_roundw
        case rel => exact ⟨k + 1, by omega, by go_num, hch.trans (show Chg [] wr _ from (by repeat' (first | (with_reducible assumption) | (with_reducible exact Chg.refl _ _) | (with_reducible refine Chg.alloc ?_ _) | (with_reducible refine Chg.drewN ?_ _) | (with_reducible refine Chg.drew ?_) | (with_reducible refine Chg.strW ?_ _ _) | (with_reducible refine Chg.t0 ?_ (by with_reducible assumption))))) (by simp)⟩
        case measure => simp [intOf]; omega
    · obtain rfl : k = xs.length := by omega
      go_wp2_with (fail)
      go_ret
      exact ⟨rfl, hch⟩
end Go.Proofs.Ytdfngcdfencaiaa
