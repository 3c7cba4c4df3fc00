
/-
  chain: the reference: place, At.
-/
import Derived.Test.YtmliclfepnebfaaChU
namespace Go.Proofs.Ytmliclfepnebfaa
open Go.RowKit
set_option linter.unusedVariables false
set_option linter.unusedSimpArgs false
theorem cmpS_le {a b : St} : cmpS a b ≤ 0 ↔ a.m < b.m ∨ (a.m = b.m ∧ a.c ≤ b.c) := by
  have h1 := @cmpS_lt a b
  have h2 := @cmpS_eq a b
  have h3 : cmpS a b ≤ 0 ↔ cmpS a b < 0 ∨ cmpS a b = 0 := by omega
  rw [h3, h1, h2]; omega
theorem uptoV_iff {l : List VV} (h : Rise l) (s : St) {i : Nat} (hi : i < l.length) : cmpS l[i].st s ≤ 0 ↔ i < uptoV l s := by
  obtain ⟨s1, s2⟩ := takeWhile_spec (fun x : VV => decide (cmpS x.st s ≤ 0)) l
  constructor
  · intro hlt
    rcases Nat.lt_or_ge i (uptoV l s) with h1 | h1
    · exact h1
    · exfalso
      have h3 := s2 (show uptoV l s < l.length by omega)
      have h4 : ¬ cmpS (l[uptoV l s]'(by omega)).st s ≤ 0 := of_decide_eq_false h3
      rcases Nat.lt_or_ge (uptoV l s) i with h2 | h2
      · have h5 := cmpV_lt.1 (h.at_ h2 hi)
        rw [cmpS_le] at h4 hlt
        simp only [VV.st] at h4 hlt
        omega
      · have : uptoV l s = i := by omega
        simp only [this] at h4
        exact h4 hlt
  · intro hlt
    exact of_decide_eq_true (s1 i hi hlt)
set_option maxRecDepth 100000 in
set_option maxHeartbeats 6400000 in
theorem place_raw (w : World) (gn : Nat) (A : Option Addr) (c : Nat) (ms : List VrV) (H : ChP 55 gn A c ms w) (hn : ms.length ≤ 1000000) (hrise : Rise (ms.map VrV.v)) (sm sc : Int) :
    Calls Try.prog 42 #[.pointer (some ⟨gn, 0, none⟩), .agg #[.int .i64 sm, .int .i64 sc]] w fun e w' => e = .returned (.int .i64 ((uptoV (ms.map VrV.v) ⟨sm, sc⟩ : Int) - 1)) ∧ Chg [] w w' := by
  have hle := uptoV_le (ms.map VrV.v) ⟨sm, sc⟩
  rw [List.length_map] at hle
  have HU : Hid (∀ (i : Nat) (hi : i < ms.length), cmpS (ms[i]).v.st ⟨sm, sc⟩ ≤ 0 ↔ i < uptoV (ms.map VrV.v) ⟨sm, sc⟩) := fun i hi => by
    have := uptoV_iff hrise ⟨sm, sc⟩ (i := i) (by rw [List.length_map]; exact hi)
    rwa [List.getElem_map] at this
  generalize uptoV (ms.map VrV.v) ⟨sm, sc⟩ = U at *
  have HX := Lib.hid (At.new w 25 #[.int .i64 sm, .int .i64 sc])
  have HQ := Lib.hid ((Chg.refl [] w).alloc (.cells #[.int .i64 sm, .int .i64 sc] 25))
  have HH := Lib.hid (H.keep HQ.out)
  clear hrise
  go_enter Try.func42, Try.ntmps42
  go_wp2_with (fail)
  generalize hwz : w.alloc (.cells #[.int .i64 sm, .int .i64 sc] 25) = wz at *
  generalize hgs : w.heap.size = gs at *
  go_loopw [6, 5] (fun i r wr => ∃ k : Nat, k ≤ ms.length ∧ i = .int .i64 k ∧ r = .int .i64 (((min k U : Nat) : Int) - 1) ∧ Chg [] wz wr) (fun i _ _ => ms.length - (intOf i).toNat)
  case atStart => exact ⟨0, Nat.zero_le _, rfl, by simp, Chg.refl _ _⟩
  case round =>
    obtain ⟨k, hk, rfl, rfl, hch⟩ := hrel
    have HHr := Lib.hid (HH.out.keep hch)
    have HR := Lib.hid (Rd.of_own HHr.out.row)
    have HSr := Lib.hid (HX.out.keep hch (by simp))
    have a0 := HHr.out.at_.cell 0
    by_cases hlt : k < ms.length
    · have hki : (k : Int) < (ms.length : Int) := by omega
      have hk0 : (0 : Int) ≤ (k : Int) := by omega
      have HUk := Lib.hid (HU.out k hlt)
      obtain ⟨s, HS⟩ : ∃ s, Hid (cmpS (ms[k]).v.st ⟨sm, sc⟩ = s) := ⟨_, Lib.hid rfl⟩
      rw [HS.out] at HUk
      obtain ⟨ad, rfl, had, hc0, hc⟩ := HR.out.getV hlt
      have hc1 := hc 1 _ (by omega) rfl
      generalize ms[k] = y at *
      clear hc
      obtain ⟨m, q, o, A', d, p, g, t⟩ := y
      simp only [VrV.v, VV.st] at hc0 hc1 HS
      have KK : Hid (∀ w', Chg [] wr w' → w'.cell? ⟨gn, 0, none⟩ = some (.slice (some ad) ms.length c) ∧ w'.cell? (ad.add (k * 6)) = some (.int .i64 m) ∧ w'.cell? ⟨(ad.add (k * 6)).block, (ad.add (k * 6)).off + 1, none⟩ = some (.int .i64 q) ∧ w'.cell? ⟨gs, 0, none⟩ = some (.int .i64 sm) ∧ w'.cell? ⟨gs, 1, none⟩ = some (.int .i64 sc)) := fun w' hc => ⟨(HHr.out.at_.keep hc (by simp)).cell 0, (hc.cell (by rw [add_block]; exact had) (by simp)).trans hc0, (hc.cell (p := ⟨(ad.add (k * 6)).block, (ad.add (k * 6)).off + 1, none⟩) (by show (ad.add (k * 6)).block < _; rw [add_block]; exact had) (by simp)).trans hc1, (HSr.out.keep hc (by simp)).cell 0, (HSr.out.keep hc (by simp)).cell 1⟩
      clear hc0 hc1
      go_upto_region 5 with (fail)
      clear a0
      by_cases hs : s ≤ 0
      · have hY : Hid (k < U) := HUk.out.1 hs
        have hb0 : decide (s ≤ 0) = true := decide_eq_true hs
        refine wp_region_held_drew (S := fun w' => w'.cell? ⟨gn, 0, none⟩ = some (.slice (some ad) ms.length c) ∧ w'.cell? (ad.add (k * 6)) = some (.int .i64 m) ∧ w'.cell? ⟨(ad.add (k * 6)).block, (ad.add (k * 6)).off + 1, none⟩ = some (.int .i64 q) ∧ w'.cell? ⟨gs, 0, none⟩ = some (.int .i64 sm) ∧ w'.cell? ⟨gs, 1, none⟩ = some (.int .i64 sc)) (by kernel_rfl) ?_ (fun hHeld => ?_)
        · exact KK.out _ ((Chg.refl [] wr).drewN 1)
        refine takeW (i := 0) (d := (some 16)) (v := ?_) rfl rfl (by kernel_rfl) (by kernel_rfl) (by kernel_rfl) (fun _ _ _ h => h) (by rfl) ?_ (by assumption) ?_
        rotate_left
        · intro w' hSw; (try dsimp only at hSw); go_simp; try with_reducible rfl
        try simp only [Act.put, List.setIfInBounds_toArray, List.set_cons_zero, List.set_cons_succ]
        refine takeW (i := 1) (d := (some 17)) (v := ?_) rfl rfl (by kernel_rfl) (by kernel_rfl) (by kernel_rfl) (fun _ _ _ h => h) (by rfl) ?_ (by assumption) ?_
        rotate_left
        · intro w' hSw; (try dsimp only at hSw); go_simp; try with_reducible rfl
        try simp only [Act.put, List.setIfInBounds_toArray, List.set_cons_zero, List.set_cons_succ]
        refine takeW (i := 2) (d := (some 18)) (v := ?_) rfl rfl (by kernel_rfl) (by kernel_rfl) (by kernel_rfl) (fun _ _ _ h => h) (by rfl) ?_ (by assumption) ?_
        rotate_left
        · intro w' hSw; (try dsimp only at hSw); go_simp; try with_reducible rfl
        try simp only [Act.put, List.setIfInBounds_toArray, List.set_cons_zero, List.set_cons_succ]
        refine takeW (i := 3) (d := (some 19)) (v := ?_) rfl rfl (by kernel_rfl) (by kernel_rfl) (by kernel_rfl) (fun _ _ _ h => h) (by rfl) ?_ (by assumption) ?_
        rotate_left
        · intro w' hSw; (try dsimp only at hSw); go_simp; try with_reducible rfl
        try simp only [Act.put, List.setIfInBounds_toArray, List.set_cons_zero, List.set_cons_succ]
        refine takeW (i := 4) (d := (some 20)) (v := ?_) rfl rfl (by kernel_rfl) (by kernel_rfl) (by kernel_rfl) (fun _ _ _ h => h) (by rfl) ?_ (by assumption) ?_
        rotate_left
        · intro w' hSw; (try dsimp only at hSw); go_simp; try with_reducible rfl
        try simp only [Act.put, List.setIfInBounds_toArray, List.set_cons_zero, List.set_cons_succ]
        refine takeW (i := 5) (d := (some 21)) (v := ?_) rfl rfl (by kernel_rfl) (by kernel_rfl) (by kernel_rfl) (fun _ _ _ h => h) (by rfl) ?_ (by assumption) ?_
        rotate_left
        · intro w' hSw; (try dsimp only at hSw); go_simp; try with_reducible rfl
        try simp only [Act.put, List.setIfInBounds_toArray, List.set_cons_zero, List.set_cons_succ]
        refine takeW (i := 6) (d := (some 22)) (v := ?_) rfl rfl (by kernel_rfl) (by kernel_rfl) (by kernel_rfl) (fun _ _ _ h => h) (by rfl) ?_ (by assumption) ?_
        rotate_left
        · intro w' hSw; (try dsimp only at hSw); go_simp; try with_reducible rfl
        try simp only [Act.put, List.setIfInBounds_toArray, List.set_cons_zero, List.set_cons_succ]
        refine takeW (i := 7) (d := (some 23)) (v := ?_) rfl rfl (by kernel_rfl) (by kernel_rfl) (by kernel_rfl) (fun _ _ _ h => h) (by rfl) ?_ (by assumption) ?_
        rotate_left
        · intro w' hSw; (try dsimp only at hSw); go_simp; try with_reducible rfl
        try simp only [Act.put, List.setIfInBounds_toArray, List.set_cons_zero, List.set_cons_succ]
        refine takeW (i := 8) (d := (some 24)) (v := ?_) rfl rfl (by kernel_rfl) (by kernel_rfl) (by kernel_rfl) (fun _ _ _ h => h) (by rfl) ?_ (by assumption) ?_
        rotate_left
        · intro w' hSw; (try dsimp only at hSw); go_simp; try with_reducible rfl
        try simp only [Act.put, List.setIfInBounds_toArray, List.set_cons_zero, List.set_cons_succ]
        refine wpAnyH_ready (rs := [9]) (by kernel_rfl) (by simp) ?_
        refine AllReadyH.cons rfl (fun K hK => ?_) AllReadyH.nil
        go_simp
        go_at_call 31
        (with_reducible refine (refCompare_any m q sm sc _).mono ?_)
        rintro e w3 ⟨rfl, hch3⟩
        rw [HS.out]
        have hch23 : Hid (Chg [] wr w3) := ((by repeat' (first | (with_reducible assumption) | (with_reducible exact Chg.refl _ _) | (with_reducible refine Chg.alloc ?_ _) | (with_reducible refine Chg.drewN ?_ _) | (with_reducible refine Chg.drew ?_) | (with_reducible refine Chg.strW ?_ _ _) | (with_reducible refine Chg.t0 ?_ (by with_reducible assumption)))) : Chg [] wr w3)
        go_wp2_with (fail)
        refine hK.out _ _ ?_ (fun hHeld => ?_)
        · first | exact KK.out _ hch23.out | (dsimp only; exact KK.out _ hch23.out)
        clear hK K
        try simp only [Act.put, List.setIfInBounds_toArray, List.set_cons_zero, List.set_cons_succ]
        refine takeW (i := 10) (d := (some 26)) (v := ?_) rfl rfl (by kernel_rfl) (by kernel_rfl) (by kernel_rfl) (fun _ _ _ h => h) (by rfl) ?_ (by assumption) ?_
        rotate_left
        · intro w' hSw; (try dsimp only at hSw); go_simp; try with_reducible rfl
        try simp only [Act.put, List.setIfInBounds_toArray, List.set_cons_zero, List.set_cons_succ]
        refine wpAnyH_done (by kernel_rfl) ?_ _
        go_wp2_with (fail)
        go_roundw
        case rel => exact ⟨k + 1, by omega, by go_num, by have := hY.out; rw [Nat.min_eq_left (by omega)]; go_num, hch.trans hch23.out (by simp)⟩
        case measure => simp [intOf]; omega
      · have hY : Hid (U ≤ k) := Nat.not_lt.1 (fun h => hs (HUk.out.2 h))
        have hb0 : decide (s ≤ 0) = false := decide_eq_false hs
        refine wp_region_held_drew (S := fun w' => w'.cell? ⟨gn, 0, none⟩ = some (.slice (some ad) ms.length c) ∧ w'.cell? (ad.add (k * 6)) = some (.int .i64 m) ∧ w'.cell? ⟨(ad.add (k * 6)).block, (ad.add (k * 6)).off + 1, none⟩ = some (.int .i64 q) ∧ w'.cell? ⟨gs, 0, none⟩ = some (.int .i64 sm) ∧ w'.cell? ⟨gs, 1, none⟩ = some (.int .i64 sc)) (by kernel_rfl) ?_ (fun hHeld => ?_)
        · exact KK.out _ ((Chg.refl [] wr).drewN 1)
        refine takeW (i := 0) (d := (some 16)) (v := ?_) rfl rfl (by kernel_rfl) (by kernel_rfl) (by kernel_rfl) (fun _ _ _ h => h) (by rfl) ?_ (by assumption) ?_
        rotate_left
        · intro w' hSw; (try dsimp only at hSw); go_simp; try with_reducible rfl
        try simp only [Act.put, List.setIfInBounds_toArray, List.set_cons_zero, List.set_cons_succ]
        refine takeW (i := 1) (d := (some 17)) (v := ?_) rfl rfl (by kernel_rfl) (by kernel_rfl) (by kernel_rfl) (fun _ _ _ h => h) (by rfl) ?_ (by assumption) ?_
        rotate_left
        · intro w' hSw; (try dsimp only at hSw); go_simp; try with_reducible rfl
        try simp only [Act.put, List.setIfInBounds_toArray, List.set_cons_zero, List.set_cons_succ]
        refine takeW (i := 2) (d := (some 18)) (v := ?_) rfl rfl (by kernel_rfl) (by kernel_rfl) (by kernel_rfl) (fun _ _ _ h => h) (by rfl) ?_ (by assumption) ?_
        rotate_left
        · intro w' hSw; (try dsimp only at hSw); go_simp; try with_reducible rfl
        try simp only [Act.put, List.setIfInBounds_toArray, List.set_cons_zero, List.set_cons_succ]
        refine takeW (i := 3) (d := (some 19)) (v := ?_) rfl rfl (by kernel_rfl) (by kernel_rfl) (by kernel_rfl) (fun _ _ _ h => h) (by rfl) ?_ (by assumption) ?_
        rotate_left
        · intro w' hSw; (try dsimp only at hSw); go_simp; try with_reducible rfl
        try simp only [Act.put, List.setIfInBounds_toArray, List.set_cons_zero, List.set_cons_succ]
        refine takeW (i := 4) (d := (some 20)) (v := ?_) rfl rfl (by kernel_rfl) (by kernel_rfl) (by kernel_rfl) (fun _ _ _ h => h) (by rfl) ?_ (by assumption) ?_
        rotate_left
        · intro w' hSw; (try dsimp only at hSw); go_simp; try with_reducible rfl
        try simp only [Act.put, List.setIfInBounds_toArray, List.set_cons_zero, List.set_cons_succ]
        refine takeW (i := 5) (d := (some 21)) (v := ?_) rfl rfl (by kernel_rfl) (by kernel_rfl) (by kernel_rfl) (fun _ _ _ h => h) (by rfl) ?_ (by assumption) ?_
        rotate_left
        · intro w' hSw; (try dsimp only at hSw); go_simp; try with_reducible rfl
        try simp only [Act.put, List.setIfInBounds_toArray, List.set_cons_zero, List.set_cons_succ]
        refine takeW (i := 6) (d := (some 22)) (v := ?_) rfl rfl (by kernel_rfl) (by kernel_rfl) (by kernel_rfl) (fun _ _ _ h => h) (by rfl) ?_ (by assumption) ?_
        rotate_left
        · intro w' hSw; (try dsimp only at hSw); go_simp; try with_reducible rfl
        try simp only [Act.put, List.setIfInBounds_toArray, List.set_cons_zero, List.set_cons_succ]
        refine takeW (i := 7) (d := (some 23)) (v := ?_) rfl rfl (by kernel_rfl) (by kernel_rfl) (by kernel_rfl) (fun _ _ _ h => h) (by rfl) ?_ (by assumption) ?_
        rotate_left
        · intro w' hSw; (try dsimp only at hSw); go_simp; try with_reducible rfl
        try simp only [Act.put, List.setIfInBounds_toArray, List.set_cons_zero, List.set_cons_succ]
        refine takeW (i := 8) (d := (some 24)) (v := ?_) rfl rfl (by kernel_rfl) (by kernel_rfl) (by kernel_rfl) (fun _ _ _ h => h) (by rfl) ?_ (by assumption) ?_
        rotate_left
        · intro w' hSw; (try dsimp only at hSw); go_simp; try with_reducible rfl
        try simp only [Act.put, List.setIfInBounds_toArray, List.set_cons_zero, List.set_cons_succ]
        refine wpAnyH_ready (rs := [9]) (by kernel_rfl) (by simp) ?_
        refine AllReadyH.cons rfl (fun K hK => ?_) AllReadyH.nil
        go_simp
        go_at_call 31
        (with_reducible refine (refCompare_any m q sm sc _).mono ?_)
        rintro e w3 ⟨rfl, hch3⟩
        rw [HS.out]
        have hch23 : Hid (Chg [] wr w3) := ((by repeat' (first | (with_reducible assumption) | (with_reducible exact Chg.refl _ _) | (with_reducible refine Chg.alloc ?_ _) | (with_reducible refine Chg.drewN ?_ _) | (with_reducible refine Chg.drew ?_) | (with_reducible refine Chg.strW ?_ _ _) | (with_reducible refine Chg.t0 ?_ (by with_reducible assumption)))) : Chg [] wr w3)
        go_wp2_with (fail)
        refine hK.out _ _ ?_ (fun hHeld => ?_)
        · first | exact KK.out _ hch23.out | (dsimp only; exact KK.out _ hch23.out)
        clear hK K
        try simp only [Act.put, List.setIfInBounds_toArray, List.set_cons_zero, List.set_cons_succ]
        refine takeW (i := 10) (d := (some 26)) (v := ?_) rfl rfl (by kernel_rfl) (by kernel_rfl) (by kernel_rfl) (fun _ _ _ h => h) (by rfl) ?_ (by assumption) ?_
        rotate_left
        · intro w' hSw; (try dsimp only at hSw); go_simp; try with_reducible rfl
        try simp only [Act.put, List.setIfInBounds_toArray, List.set_cons_zero, List.set_cons_succ]
        refine wpAnyH_done (by kernel_rfl) ?_ _
        go_wp2_with (fail)
        go_roundw
        case rel => exact ⟨k + 1, by omega, by go_num, by have := hY.out; rw [Nat.min_eq_right (by omega), Nat.min_eq_right (by omega)], hch.trans hch23.out (by simp)⟩
        case measure => simp [intOf]; omega
    · obtain rfl : k = ms.length := by omega
      have hki : ¬ (ms.length : Int) < (ms.length : Int) := by omega
      go_wp2_with (fail)
      go_ret
      exact ⟨rfl, HQ.out.trans hch (by simp)⟩
end Go.Proofs.Ytmliclfepnebfaa
