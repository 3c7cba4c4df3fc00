
/-
  chain: what a chain answers at a stamp: upto, At, Get.
-/
import Derived.Test.YtmliclfepnebfaaChM
namespace Go.Proofs.Ytmliclfepnebfaa
open Go.RowKit
set_option linter.unusedVariables false
set_option linter.unusedSimpArgs false
theorem uptoV_at (l : List VV) (s : St) (k : Nat) (hk : k ≤ l.length) (h1 : ∀ j (h : j < l.length), j < k → cmpS l[j].st s ≤ 0) (h2 : ∀ h : k < l.length, ¬ cmpS (l[k]'h).st s ≤ 0) : uptoV l s = k :=
  takeWhile_len _ hk (fun j h hj => decide_eq_true (h1 j h hj)) (fun h => decide_eq_false (h2 h))
set_option maxRecDepth 100000 in
set_option maxHeartbeats 6400000 in
theorem uptoC_raw (w : World) (gn : Nat) (A : Option Addr) (c : Nat) (ms : List VrV) (H : ChP 65 gn A c ms w) (hn : ms.length ≤ 1000000) (sm sc : Int) :
    Calls Try.prog 41 #[.pointer (some ⟨gn, 0, none⟩), .agg #[.int .i64 sm, .int .i64 sc]] w fun e w' => e = .returned (.int .i64 (uptoV (ms.map VrV.v) ⟨sm, sc⟩)) ∧ Chg [] w w' := by
  have HX := Lib.hid (At.new w 25 #[.int .i64 sm, .int .i64 sc])
  have HQ := Lib.hid ((Chg.refl [] w).alloc (.cells #[.int .i64 sm, .int .i64 sc] 25))
  have HH := Lib.hid (H.keep HQ.out)
  go_enter Try.func41, Try.ntmps41
  go_wp2_with (fail)
  generalize hwz : w.alloc (.cells #[.int .i64 sm, .int .i64 sc] 25) = wz at *
  generalize hgs : w.heap.size = gs at *
  go_loopw [5] (fun i wr => ∃ k : Nat, k ≤ ms.length ∧ i = .int .i64 k ∧ Hid (∀ j (h : j < ms.length), j < k → cmpS (ms[j]).v.st ⟨sm, sc⟩ ≤ 0) ∧ Chg [] wz wr) (fun i _ => ms.length - (intOf i).toNat)
  case atStart => exact ⟨0, Nat.zero_le _, rfl, (by intro j h hj; omega), Chg.refl _ _⟩
  case round =>
    obtain ⟨k, hk, rfl, HI, hch⟩ := hrel
    have HHr := Lib.hid (HH.out.keep hch)
    have HR := Lib.hid (Rd.of_own HHr.out.row)
    have HSr := Lib.hid (HX.out.keep hch (by simp))
    by_cases hlt : k < ms.length
    · have hki : (k : Int) < (ms.length : Int) := by omega
      have hk0 : (0 : Int) ≤ (k : Int) := by omega
      obtain ⟨s, HS⟩ : ∃ s, Hid (cmpS (ms[k]).v.st ⟨sm, sc⟩ = s) := ⟨_, Lib.hid rfl⟩
      have HYes : Hid (s ≤ 0 → ∀ j (h : j < ms.length), j < k + 1 → cmpS (ms[j]).v.st ⟨sm, sc⟩ ≤ 0) := fun h1 j h hj => by
        by_cases e : j = k
        · subst e; rw [HS.out]; exact h1
        · exact HI.out j h (by omega)
      have HNo : Hid (¬ s ≤ 0 → uptoV (ms.map VrV.v) ⟨sm, sc⟩ = k) := fun h1 => uptoV_at _ _ k (by rw [List.length_map]; omega) (fun j h hj => by rw [List.getElem_map]; exact HI.out j (by rwa [List.length_map] at h) hj) (fun h => by rw [List.getElem_map, HS.out]; exact h1)
      obtain ⟨ad, rfl, had, hc0, hc⟩ := HR.out.getV hlt
      have hc1 := hc 1 _ (by omega) rfl
      clear HI
      generalize ms[k] = y at *
      clear hc
      obtain ⟨m, q, o, A', d, p, g, t⟩ := y
      simp only [VrV.v, VV.st] at hc0 hc1 HS
      have KK : Hid (∀ w', Chg [] wr w' → w'.cell? ⟨gn, 0, none⟩ = some (.slice (some ad) ms.length c) ∧ w'.cell? (ad.add (k * 6)) = some (.int .i64 m) ∧ w'.cell? ⟨(ad.add (k * 6)).block, (ad.add (k * 6)).off + 1, none⟩ = some (.int .i64 q) ∧ w'.cell? ⟨gs, 0, none⟩ = some (.int .i64 sm) ∧ w'.cell? ⟨gs, 1, none⟩ = some (.int .i64 sc)) := fun w' hc => ⟨(HHr.out.at_.keep hc (by simp)).cell 0, (hc.cell (by rw [add_block]; exact had) (by simp)).trans hc0, (hc.cell (p := ⟨(ad.add (k * 6)).block, (ad.add (k * 6)).off + 1, none⟩) (by show (ad.add (k * 6)).block < _; rw [add_block]; exact had) (by simp)).trans hc1, (HSr.out.keep hc (by simp)).cell 0, (HSr.out.keep hc (by simp)).cell 1⟩
      clear hc0 hc1
      by_cases hs : s ≤ 0
      · have hY := Lib.hid (HYes.out hs)
        have hb0 : decide (s ≤ 0) = true := decide_eq_true hs
        clear HNo HYes
        go_upto_region 4 with (fail)
        refine wp_region_held_drew (S := fun w' => w'.cell? ⟨gn, 0, none⟩ = some (.slice (some ad) ms.length c) ∧ w'.cell? (ad.add (k * 6)) = some (.int .i64 m) ∧ w'.cell? ⟨(ad.add (k * 6)).block, (ad.add (k * 6)).off + 1, none⟩ = some (.int .i64 q) ∧ w'.cell? ⟨gs, 0, none⟩ = some (.int .i64 sm) ∧ w'.cell? ⟨gs, 1, none⟩ = some (.int .i64 sc)) (by kernel_rfl) ?_ (fun hHeld => ?_)
        · exact KK.out _ ((Chg.refl [] wr).drewN 1)
        refine takeW (i := 0) (d := (some 8)) (v := ?_) rfl rfl (by kernel_rfl) (by kernel_rfl) (by kernel_rfl) (fun _ _ _ h => h) (by rfl) ?_ (by assumption) ?_
        rotate_left
        · intro w' hSw; (try dsimp only at hSw); go_simp; try with_reducible rfl
        try simp only [Act.put, List.setIfInBounds_toArray, List.set_cons_zero, List.set_cons_succ]
        refine takeW (i := 1) (d := (some 9)) (v := ?_) rfl rfl (by kernel_rfl) (by kernel_rfl) (by kernel_rfl) (fun _ _ _ h => h) (by rfl) ?_ (by assumption) ?_
        rotate_left
        · intro w' hSw; (try dsimp only at hSw); go_simp; try with_reducible rfl
        try simp only [Act.put, List.setIfInBounds_toArray, List.set_cons_zero, List.set_cons_succ]
        refine takeW (i := 2) (d := (some 10)) (v := ?_) rfl rfl (by kernel_rfl) (by kernel_rfl) (by kernel_rfl) (fun _ _ _ h => h) (by rfl) ?_ (by assumption) ?_
        rotate_left
        · intro w' hSw; (try dsimp only at hSw); go_simp; try with_reducible rfl
        try simp only [Act.put, List.setIfInBounds_toArray, List.set_cons_zero, List.set_cons_succ]
        refine takeW (i := 3) (d := (some 11)) (v := ?_) rfl rfl (by kernel_rfl) (by kernel_rfl) (by kernel_rfl) (fun _ _ _ h => h) (by rfl) ?_ (by assumption) ?_
        rotate_left
        · intro w' hSw; (try dsimp only at hSw); go_simp; try with_reducible rfl
        try simp only [Act.put, List.setIfInBounds_toArray, List.set_cons_zero, List.set_cons_succ]
        refine takeW (i := 4) (d := (some 12)) (v := ?_) rfl rfl (by kernel_rfl) (by kernel_rfl) (by kernel_rfl) (fun _ _ _ h => h) (by rfl) ?_ (by assumption) ?_
        rotate_left
        · intro w' hSw; (try dsimp only at hSw); go_simp; try with_reducible rfl
        try simp only [Act.put, List.setIfInBounds_toArray, List.set_cons_zero, List.set_cons_succ]
        refine takeW (i := 5) (d := (some 13)) (v := ?_) rfl rfl (by kernel_rfl) (by kernel_rfl) (by kernel_rfl) (fun _ _ _ h => h) (by rfl) ?_ (by assumption) ?_
        rotate_left
        · intro w' hSw; (try dsimp only at hSw); go_simp; try with_reducible rfl
        try simp only [Act.put, List.setIfInBounds_toArray, List.set_cons_zero, List.set_cons_succ]
        refine takeW (i := 6) (d := (some 14)) (v := ?_) rfl rfl (by kernel_rfl) (by kernel_rfl) (by kernel_rfl) (fun _ _ _ h => h) (by rfl) ?_ (by assumption) ?_
        rotate_left
        · intro w' hSw; (try dsimp only at hSw); go_simp; try with_reducible rfl
        try simp only [Act.put, List.setIfInBounds_toArray, List.set_cons_zero, List.set_cons_succ]
        refine takeW (i := 7) (d := (some 15)) (v := ?_) rfl rfl (by kernel_rfl) (by kernel_rfl) (by kernel_rfl) (fun _ _ _ h => h) (by rfl) ?_ (by assumption) ?_
        rotate_left
        · intro w' hSw; (try dsimp only at hSw); go_simp; try with_reducible rfl
        try simp only [Act.put, List.setIfInBounds_toArray, List.set_cons_zero, List.set_cons_succ]
        refine takeW (i := 8) (d := (some 16)) (v := ?_) rfl rfl (by kernel_rfl) (by kernel_rfl) (by kernel_rfl) (fun _ _ _ h => h) (by rfl) ?_ (by assumption) ?_
        rotate_left
        · intro w' hSw; (try dsimp only at hSw); go_simp; try with_reducible rfl
        try simp only [Act.put, List.setIfInBounds_toArray, List.set_cons_zero, List.set_cons_succ]
        refine takeW (i := 9) (d := (some 17)) (v := ?_) rfl rfl (by kernel_rfl) (by kernel_rfl) (by kernel_rfl) (fun _ _ _ h => h) (by rfl) ?_ (by assumption) ?_
        rotate_left
        · intro w' hSw; (try dsimp only at hSw); go_simp; try with_reducible rfl
        try simp only [Act.put, List.setIfInBounds_toArray, List.set_cons_zero, List.set_cons_succ]
        refine takeW (i := 10) (d := (some 18)) (v := ?_) rfl rfl (by kernel_rfl) (by kernel_rfl) (by kernel_rfl) (fun _ _ _ h => h) (by rfl) ?_ (by assumption) ?_
        rotate_left
        · intro w' hSw; (try dsimp only at hSw); go_simp; try with_reducible rfl
        try simp only [Act.put, List.setIfInBounds_toArray, List.set_cons_zero, List.set_cons_succ]
        refine takeW (i := 11) (d := (some 19)) (v := ?_) rfl rfl (by kernel_rfl) (by kernel_rfl) (by kernel_rfl) (fun _ _ _ h => h) (by rfl) ?_ (by assumption) ?_
        rotate_left
        · intro w' hSw; (try dsimp only at hSw); go_simp; try with_reducible rfl
        try simp only [Act.put, List.setIfInBounds_toArray, List.set_cons_zero, List.set_cons_succ]
        refine takeW (i := 12) (d := (some 20)) (v := ?_) rfl rfl (by kernel_rfl) (by kernel_rfl) (by kernel_rfl) (fun _ _ _ h => h) (by rfl) ?_ (by assumption) ?_
        rotate_left
        · intro w' hSw; (try dsimp only at hSw); go_simp; try with_reducible rfl
        try simp only [Act.put, List.setIfInBounds_toArray, List.set_cons_zero, List.set_cons_succ]
        refine takeW (i := 13) (d := (some 21)) (v := ?_) rfl rfl (by kernel_rfl) (by kernel_rfl) (by kernel_rfl) (fun _ _ _ h => h) (by rfl) ?_ (by assumption) ?_
        rotate_left
        · intro w' hSw; (try dsimp only at hSw); go_simp; try with_reducible rfl
        try simp only [Act.put, List.setIfInBounds_toArray, List.set_cons_zero, List.set_cons_succ]
        refine takeW (i := 14) (d := (some 22)) (v := ?_) rfl rfl (by kernel_rfl) (by kernel_rfl) (by kernel_rfl) (fun _ _ _ h => h) (by rfl) ?_ (by assumption) ?_
        rotate_left
        · intro w' hSw; (try dsimp only at hSw); go_simp; try with_reducible rfl
        try simp only [Act.put, List.setIfInBounds_toArray, List.set_cons_zero, List.set_cons_succ]
        refine takeW (i := 15) (d := (some 23)) (v := ?_) rfl rfl (by kernel_rfl) (by kernel_rfl) (by kernel_rfl) (fun _ _ _ h => h) (by rfl) ?_ (by assumption) ?_
        rotate_left
        · intro w' hSw; (try dsimp only at hSw); go_simp; try with_reducible rfl
        try simp only [Act.put, List.setIfInBounds_toArray, List.set_cons_zero, List.set_cons_succ]
        refine takeW (i := 16) (d := (some 24)) (v := ?_) rfl rfl (by kernel_rfl) (by kernel_rfl) (by kernel_rfl) (fun _ _ _ h => h) (by rfl) ?_ (by assumption) ?_
        rotate_left
        · intro w' hSw; (try dsimp only at hSw); go_simp; try with_reducible rfl
        try simp only [Act.put, List.setIfInBounds_toArray, List.set_cons_zero, List.set_cons_succ]
        refine wpAnyH_ready (rs := [17]) (by kernel_rfl) (by simp) ?_
        refine AllReadyH.cons rfl (fun K hK => ?_) AllReadyH.nil
        go_simp
        go_at_call 45
        (with_reducible refine (compare_any m q sm sc _).mono ?_)
        rintro e w3 ⟨rfl, hch3⟩
        rw [HS.out]
        have hch23 : Hid (Chg [] wr w3) := ((by repeat' (first | (with_reducible assumption) | (with_reducible exact Chg.refl _ _) | (with_reducible refine Chg.alloc ?_ _) | (with_reducible refine Chg.drewN ?_ _) | (with_reducible refine Chg.drew ?_) | (with_reducible refine Chg.strW ?_ _ _) | (with_reducible refine Chg.t0 ?_ (by with_reducible assumption)))) : Chg [] wr w3)
        go_wp2_with (fail)
        refine hK.out _ _ ?_ (fun hHeld => ?_)
        · first | exact KK.out _ hch23.out | (dsimp only; exact KK.out _ hch23.out)
        clear hK K
        try simp only [Act.put, List.setIfInBounds_toArray, List.set_cons_zero, List.set_cons_succ]
        refine takeW (i := 18) (d := (some 26)) (v := ?_) rfl rfl (by kernel_rfl) (by kernel_rfl) (by kernel_rfl) (fun _ _ _ h => h) (by rfl) ?_ (by assumption) ?_
        rotate_left
        · intro w' hSw; (try dsimp only at hSw); go_simp; try with_reducible rfl
        try simp only [Act.put, List.setIfInBounds_toArray, List.set_cons_zero, List.set_cons_succ]
        refine takeW (i := 19) (d := (some 27)) (v := ?_) rfl rfl (by kernel_rfl) (by kernel_rfl) (by kernel_rfl) (fun _ _ _ h => h) (by rfl) ?_ (by assumption) ?_
        rotate_left
        · intro w' hSw; (try dsimp only at hSw); go_simp; try with_reducible rfl
        try simp only [Act.put, List.setIfInBounds_toArray, List.set_cons_zero, List.set_cons_succ]
        refine wpAnyH_done (by kernel_rfl) ?_ _
        go_wp2_with (fail)
        go_roundw
        case rel => exact ⟨k + 1, by omega, by go_num, hY.out, hch.trans hch23.out (by simp)⟩
        case measure => simp [intOf]; omega
      · have hN := Lib.hid (HNo.out hs)
        have hb0 : decide (s ≤ 0) = false := decide_eq_false hs
        clear HNo HYes
        go_upto_region 4 with (fail)
        refine wp_region_held_drew (S := fun w' => w'.cell? ⟨gn, 0, none⟩ = some (.slice (some ad) ms.length c) ∧ w'.cell? (ad.add (k * 6)) = some (.int .i64 m) ∧ w'.cell? ⟨(ad.add (k * 6)).block, (ad.add (k * 6)).off + 1, none⟩ = some (.int .i64 q) ∧ w'.cell? ⟨gs, 0, none⟩ = some (.int .i64 sm) ∧ w'.cell? ⟨gs, 1, none⟩ = some (.int .i64 sc)) (by kernel_rfl) ?_ (fun hHeld => ?_)
        · exact KK.out _ ((Chg.refl [] wr).drewN 1)
        refine takeW (i := 0) (d := (some 8)) (v := ?_) rfl rfl (by kernel_rfl) (by kernel_rfl) (by kernel_rfl) (fun _ _ _ h => h) (by rfl) ?_ (by assumption) ?_
        rotate_left
        · intro w' hSw; (try dsimp only at hSw); go_simp; try with_reducible rfl
        try simp only [Act.put, List.setIfInBounds_toArray, List.set_cons_zero, List.set_cons_succ]
        refine takeW (i := 1) (d := (some 9)) (v := ?_) rfl rfl (by kernel_rfl) (by kernel_rfl) (by kernel_rfl) (fun _ _ _ h => h) (by rfl) ?_ (by assumption) ?_
        rotate_left
        · intro w' hSw; (try dsimp only at hSw); go_simp; try with_reducible rfl
        try simp only [Act.put, List.setIfInBounds_toArray, List.set_cons_zero, List.set_cons_succ]
        refine takeW (i := 2) (d := (some 10)) (v := ?_) rfl rfl (by kernel_rfl) (by kernel_rfl) (by kernel_rfl) (fun _ _ _ h => h) (by rfl) ?_ (by assumption) ?_
        rotate_left
        · intro w' hSw; (try dsimp only at hSw); go_simp; try with_reducible rfl
        try simp only [Act.put, List.setIfInBounds_toArray, List.set_cons_zero, List.set_cons_succ]
        refine takeW (i := 3) (d := (some 11)) (v := ?_) rfl rfl (by kernel_rfl) (by kernel_rfl) (by kernel_rfl) (fun _ _ _ h => h) (by rfl) ?_ (by assumption) ?_
        rotate_left
        · intro w' hSw; (try dsimp only at hSw); go_simp; try with_reducible rfl
        try simp only [Act.put, List.setIfInBounds_toArray, List.set_cons_zero, List.set_cons_succ]
        refine takeW (i := 4) (d := (some 12)) (v := ?_) rfl rfl (by kernel_rfl) (by kernel_rfl) (by kernel_rfl) (fun _ _ _ h => h) (by rfl) ?_ (by assumption) ?_
        rotate_left
        · intro w' hSw; (try dsimp only at hSw); go_simp; try with_reducible rfl
        try simp only [Act.put, List.setIfInBounds_toArray, List.set_cons_zero, List.set_cons_succ]
        refine takeW (i := 5) (d := (some 13)) (v := ?_) rfl rfl (by kernel_rfl) (by kernel_rfl) (by kernel_rfl) (fun _ _ _ h => h) (by rfl) ?_ (by assumption) ?_
        rotate_left
        · intro w' hSw; (try dsimp only at hSw); go_simp; try with_reducible rfl
        try simp only [Act.put, List.setIfInBounds_toArray, List.set_cons_zero, List.set_cons_succ]
        refine takeW (i := 6) (d := (some 14)) (v := ?_) rfl rfl (by kernel_rfl) (by kernel_rfl) (by kernel_rfl) (fun _ _ _ h => h) (by rfl) ?_ (by assumption) ?_
        rotate_left
        · intro w' hSw; (try dsimp only at hSw); go_simp; try with_reducible rfl
        try simp only [Act.put, List.setIfInBounds_toArray, List.set_cons_zero, List.set_cons_succ]
        refine takeW (i := 7) (d := (some 15)) (v := ?_) rfl rfl (by kernel_rfl) (by kernel_rfl) (by kernel_rfl) (fun _ _ _ h => h) (by rfl) ?_ (by assumption) ?_
        rotate_left
        · intro w' hSw; (try dsimp only at hSw); go_simp; try with_reducible rfl
        try simp only [Act.put, List.setIfInBounds_toArray, List.set_cons_zero, List.set_cons_succ]
        refine takeW (i := 8) (d := (some 16)) (v := ?_) rfl rfl (by kernel_rfl) (by kernel_rfl) (by kernel_rfl) (fun _ _ _ h => h) (by rfl) ?_ (by assumption) ?_
        rotate_left
        · intro w' hSw; (try dsimp only at hSw); go_simp; try with_reducible rfl
        try simp only [Act.put, List.setIfInBounds_toArray, List.set_cons_zero, List.set_cons_succ]
        refine takeW (i := 9) (d := (some 17)) (v := ?_) rfl rfl (by kernel_rfl) (by kernel_rfl) (by kernel_rfl) (fun _ _ _ h => h) (by rfl) ?_ (by assumption) ?_
        rotate_left
        · intro w' hSw; (try dsimp only at hSw); go_simp; try with_reducible rfl
        try simp only [Act.put, List.setIfInBounds_toArray, List.set_cons_zero, List.set_cons_succ]
        refine takeW (i := 10) (d := (some 18)) (v := ?_) rfl rfl (by kernel_rfl) (by kernel_rfl) (by kernel_rfl) (fun _ _ _ h => h) (by rfl) ?_ (by assumption) ?_
        rotate_left
        · intro w' hSw; (try dsimp only at hSw); go_simp; try with_reducible rfl
        try simp only [Act.put, List.setIfInBounds_toArray, List.set_cons_zero, List.set_cons_succ]
        refine takeW (i := 11) (d := (some 19)) (v := ?_) rfl rfl (by kernel_rfl) (by kernel_rfl) (by kernel_rfl) (fun _ _ _ h => h) (by rfl) ?_ (by assumption) ?_
        rotate_left
        · intro w' hSw; (try dsimp only at hSw); go_simp; try with_reducible rfl
        try simp only [Act.put, List.setIfInBounds_toArray, List.set_cons_zero, List.set_cons_succ]
        refine takeW (i := 12) (d := (some 20)) (v := ?_) rfl rfl (by kernel_rfl) (by kernel_rfl) (by kernel_rfl) (fun _ _ _ h => h) (by rfl) ?_ (by assumption) ?_
        rotate_left
        · intro w' hSw; (try dsimp only at hSw); go_simp; try with_reducible rfl
        try simp only [Act.put, List.setIfInBounds_toArray, List.set_cons_zero, List.set_cons_succ]
        refine takeW (i := 13) (d := (some 21)) (v := ?_) rfl rfl (by kernel_rfl) (by kernel_rfl) (by kernel_rfl) (fun _ _ _ h => h) (by rfl) ?_ (by assumption) ?_
        rotate_left
        · intro w' hSw; (try dsimp only at hSw); go_simp; try with_reducible rfl
        try simp only [Act.put, List.setIfInBounds_toArray, List.set_cons_zero, List.set_cons_succ]
        refine takeW (i := 14) (d := (some 22)) (v := ?_) rfl rfl (by kernel_rfl) (by kernel_rfl) (by kernel_rfl) (fun _ _ _ h => h) (by rfl) ?_ (by assumption) ?_
        rotate_left
        · intro w' hSw; (try dsimp only at hSw); go_simp; try with_reducible rfl
        try simp only [Act.put, List.setIfInBounds_toArray, List.set_cons_zero, List.set_cons_succ]
        refine takeW (i := 15) (d := (some 23)) (v := ?_) rfl rfl (by kernel_rfl) (by kernel_rfl) (by kernel_rfl) (fun _ _ _ h => h) (by rfl) ?_ (by assumption) ?_
        rotate_left
        · intro w' hSw; (try dsimp only at hSw); go_simp; try with_reducible rfl
        try simp only [Act.put, List.setIfInBounds_toArray, List.set_cons_zero, List.set_cons_succ]
        refine takeW (i := 16) (d := (some 24)) (v := ?_) rfl rfl (by kernel_rfl) (by kernel_rfl) (by kernel_rfl) (fun _ _ _ h => h) (by rfl) ?_ (by assumption) ?_
        rotate_left
        · intro w' hSw; (try dsimp only at hSw); go_simp; try with_reducible rfl
        try simp only [Act.put, List.setIfInBounds_toArray, List.set_cons_zero, List.set_cons_succ]
        refine wpAnyH_ready (rs := [17]) (by kernel_rfl) (by simp) ?_
        refine AllReadyH.cons rfl (fun K hK => ?_) AllReadyH.nil
        go_simp
        go_at_call 45
        (with_reducible refine (compare_any m q sm sc _).mono ?_)
        rintro e w3 ⟨rfl, hch3⟩
        rw [HS.out]
        have hch23 : Hid (Chg [] wr w3) := ((by repeat' (first | (with_reducible assumption) | (with_reducible exact Chg.refl _ _) | (with_reducible refine Chg.alloc ?_ _) | (with_reducible refine Chg.drewN ?_ _) | (with_reducible refine Chg.drew ?_) | (with_reducible refine Chg.strW ?_ _ _) | (with_reducible refine Chg.t0 ?_ (by with_reducible assumption)))) : Chg [] wr w3)
        go_wp2_with (fail)
        refine hK.out _ _ ?_ (fun hHeld => ?_)
        · first | exact KK.out _ hch23.out | (dsimp only; exact KK.out _ hch23.out)
        clear hK K
        try simp only [Act.put, List.setIfInBounds_toArray, List.set_cons_zero, List.set_cons_succ]
        refine takeW (i := 18) (d := (some 26)) (v := ?_) rfl rfl (by kernel_rfl) (by kernel_rfl) (by kernel_rfl) (fun _ _ _ h => h) (by rfl) ?_ (by assumption) ?_
        rotate_left
        · intro w' hSw; (try dsimp only at hSw); go_simp; try with_reducible rfl
        try simp only [Act.put, List.setIfInBounds_toArray, List.set_cons_zero, List.set_cons_succ]
        refine takeW (i := 19) (d := (some 27)) (v := ?_) rfl rfl (by kernel_rfl) (by kernel_rfl) (by kernel_rfl) (fun _ _ _ h => h) (by rfl) ?_ (by assumption) ?_
        rotate_left
        · intro w' hSw; (try dsimp only at hSw); go_simp; try with_reducible rfl
        try simp only [Act.put, List.setIfInBounds_toArray, List.set_cons_zero, List.set_cons_succ]
        refine wpAnyH_done (by kernel_rfl) ?_ _
        go_wp2_with (fail)
        go_ret
        exact ⟨by rw [hN.out]; rfl, (HQ.out.trans hch (by simp)).trans hch23.out (by simp)⟩
    · obtain rfl : k = ms.length := by omega
      have hki : ¬ (ms.length : Int) < (ms.length : Int) := by omega
      have hN : Hid (uptoV (ms.map VrV.v) ⟨sm, sc⟩ = ms.length) := uptoV_at _ _ _ (by rw [List.length_map]; exact Nat.le_refl _) (fun j h hj => by rw [List.getElem_map]; exact HI.out j hj hj) (fun h => by rw [List.length_map] at h; omega)
      have KK : Hid (∀ w', Chg [] wr w' → w'.cell? ⟨gn, 0, none⟩ = some (.slice A ms.length c)) := fun w' hc => (HHr.out.at_.keep hc (by simp)).cell 0
      go_upto_region 4 with (fail)
      refine wp_region_held_drew (S := fun w' => w'.cell? ⟨gn, 0, none⟩ = some (.slice A ms.length c)) (by kernel_rfl) ?_ (fun hHeld => ?_)
      · exact KK.out _ ((Chg.refl [] wr).drewN 1)
      refine takeW (i := 0) (d := (some 8)) (v := ?_) rfl rfl (by kernel_rfl) (by kernel_rfl) (by kernel_rfl) (fun _ _ _ h => h) (by rfl) ?_ (by assumption) ?_
      rotate_left
      · intro w' hSw; (try dsimp only at hSw); go_simp; try with_reducible rfl
      try simp only [Act.put, List.setIfInBounds_toArray, List.set_cons_zero, List.set_cons_succ]
      refine takeW (i := 1) (d := (some 9)) (v := ?_) rfl rfl (by kernel_rfl) (by kernel_rfl) (by kernel_rfl) (fun _ _ _ h => h) (by rfl) ?_ (by assumption) ?_
      rotate_left
      · intro w' hSw; (try dsimp only at hSw); go_simp; try with_reducible rfl
      try simp only [Act.put, List.setIfInBounds_toArray, List.set_cons_zero, List.set_cons_succ]
      refine takeW (i := 2) (d := (some 10)) (v := ?_) rfl rfl (by kernel_rfl) (by kernel_rfl) (by kernel_rfl) (fun _ _ _ h => h) (by rfl) ?_ (by assumption) ?_
      rotate_left
      · intro w' hSw; (try dsimp only at hSw); go_simp; try with_reducible rfl
      try simp only [Act.put, List.setIfInBounds_toArray, List.set_cons_zero, List.set_cons_succ]
      refine takeW (i := 3) (d := (some 11)) (v := ?_) rfl rfl (by kernel_rfl) (by kernel_rfl) (by kernel_rfl) (fun _ _ _ h => h) (by rfl) ?_ (by assumption) ?_
      rotate_left
      · intro w' hSw; (try dsimp only at hSw); go_simp; try with_reducible rfl
      try simp only [Act.put, List.setIfInBounds_toArray, List.set_cons_zero, List.set_cons_succ]
      refine takeW (i := 4) (d := (some 12)) (v := ?_) rfl rfl (by kernel_rfl) (by kernel_rfl) (by kernel_rfl) (fun _ _ _ h => h) (by rfl) ?_ (by assumption) ?_
      rotate_left
      · intro w' hSw; (try dsimp only at hSw); go_simp; try with_reducible rfl
      try simp only [Act.put, List.setIfInBounds_toArray, List.set_cons_zero, List.set_cons_succ]
      refine takeW (i := 5) (d := (some 13)) (v := ?_) rfl rfl (by kernel_rfl) (by kernel_rfl) (by kernel_rfl) (fun _ _ _ h => h) (by rfl) ?_ (by assumption) ?_
      rotate_left
      · intro w' hSw; (try dsimp only at hSw); go_simp; try with_reducible rfl
      try simp only [Act.put, List.setIfInBounds_toArray, List.set_cons_zero, List.set_cons_succ]
      refine takeW (i := 6) (d := (some 14)) (v := ?_) rfl rfl (by kernel_rfl) (by kernel_rfl) (by kernel_rfl) (fun _ _ _ h => h) (by rfl) ?_ (by assumption) ?_
      rotate_left
      · intro w' hSw; (try dsimp only at hSw); go_simp; try with_reducible rfl
      try simp only [Act.put, List.setIfInBounds_toArray, List.set_cons_zero, List.set_cons_succ]
      refine takeW (i := 7) (d := (some 15)) (v := ?_) rfl rfl (by kernel_rfl) (by kernel_rfl) (by kernel_rfl) (fun _ _ _ h => h) (by rfl) ?_ (by assumption) ?_
      rotate_left
      · intro w' hSw; (try dsimp only at hSw); go_simp; try with_reducible rfl
      try simp only [Act.put, List.setIfInBounds_toArray, List.set_cons_zero, List.set_cons_succ]
      refine takeU (i := 8) (d := (some 16)) rfl rfl (by kernel_rfl) (by kernel_rfl) (by kernel_rfl) (fun _ _ _ h => h) (by rfl) (by assumption) ?_
      try simp only [Act.put, List.setIfInBounds_toArray, List.set_cons_zero, List.set_cons_succ]
      refine takeU (i := 9) (d := (some 17)) rfl rfl (by kernel_rfl) (by kernel_rfl) (by kernel_rfl) (fun _ _ _ h => h) (by rfl) (by assumption) ?_
      try simp only [Act.put, List.setIfInBounds_toArray, List.set_cons_zero, List.set_cons_succ]
      refine takeU (i := 10) (d := (some 18)) rfl rfl (by kernel_rfl) (by kernel_rfl) (by kernel_rfl) (fun _ _ _ h => h) (by rfl) (by assumption) ?_
      try simp only [Act.put, List.setIfInBounds_toArray, List.set_cons_zero, List.set_cons_succ]
      refine takeU (i := 11) (d := (some 19)) rfl rfl (by kernel_rfl) (by kernel_rfl) (by kernel_rfl) (fun _ _ _ h => h) (by rfl) (by assumption) ?_
      try simp only [Act.put, List.setIfInBounds_toArray, List.set_cons_zero, List.set_cons_succ]
      refine takeU (i := 12) (d := (some 20)) rfl rfl (by kernel_rfl) (by kernel_rfl) (by kernel_rfl) (fun _ _ _ h => h) (by rfl) (by assumption) ?_
      try simp only [Act.put, List.setIfInBounds_toArray, List.set_cons_zero, List.set_cons_succ]
      refine takeU (i := 13) (d := (some 21)) rfl rfl (by kernel_rfl) (by kernel_rfl) (by kernel_rfl) (fun _ _ _ h => h) (by rfl) (by assumption) ?_
      try simp only [Act.put, List.setIfInBounds_toArray, List.set_cons_zero, List.set_cons_succ]
      refine takeU (i := 14) (d := (some 22)) rfl rfl (by kernel_rfl) (by kernel_rfl) (by kernel_rfl) (fun _ _ _ h => h) (by rfl) (by assumption) ?_
      try simp only [Act.put, List.setIfInBounds_toArray, List.set_cons_zero, List.set_cons_succ]
      refine takeU (i := 15) (d := (some 23)) rfl rfl (by kernel_rfl) (by kernel_rfl) (by kernel_rfl) (fun _ _ _ h => h) (by rfl) (by assumption) ?_
      try simp only [Act.put, List.setIfInBounds_toArray, List.set_cons_zero, List.set_cons_succ]
      refine takeU (i := 16) (d := (some 24)) rfl rfl (by kernel_rfl) (by kernel_rfl) (by kernel_rfl) (fun _ _ _ h => h) (by rfl) (by assumption) ?_
      try simp only [Act.put, List.setIfInBounds_toArray, List.set_cons_zero, List.set_cons_succ]
      refine takeU (i := 17) (d := (some 25)) rfl rfl (by kernel_rfl) (by kernel_rfl) (by kernel_rfl) (fun _ _ _ h => h) (by rfl) (by assumption) ?_
      try simp only [Act.put, List.setIfInBounds_toArray, List.set_cons_zero, List.set_cons_succ]
      refine takeU (i := 18) (d := (some 26)) rfl rfl (by kernel_rfl) (by kernel_rfl) (by kernel_rfl) (fun _ _ _ h => h) (by rfl) (by assumption) ?_
      try simp only [Act.put, List.setIfInBounds_toArray, List.set_cons_zero, List.set_cons_succ]
      refine takeW (i := 19) (d := (some 27)) (v := ?_) rfl rfl (by kernel_rfl) (by kernel_rfl) (by kernel_rfl) (fun _ _ _ h => h) (by rfl) ?_ (by assumption) ?_
      rotate_left
      · intro w' hSw; (try dsimp only at hSw); go_simp; try with_reducible rfl
      try simp only [Act.put, List.setIfInBounds_toArray, List.set_cons_zero, List.set_cons_succ]
      refine wpAnyH_done (by kernel_rfl) ?_ _
      go_wp2_with (fail)
      go_ret
      exact ⟨by rw [hN.out]; rfl, (HQ.out.trans hch (by simp)).trans ((Chg.refl [] wr).drewN 1) (by simp)⟩
theorem own_nil {w : World} {base : Nat} {e : TypeId} {size : Nat} {A : Option Addr} {n c : Nat} {xs : List Value} (h : w.ownsRow base e size (.slice A n c) n xs) (hA : A = none) : c = 0 := by
  rcases h.2 with ⟨h4, _⟩ | ⟨g, cap, cur, h4, _⟩
  · injection h4
  · injection h4 with h4; rw [hA] at h4; cases h4
def zeroV : VV := ⟨0, 0, 0, [], false, 0⟩
/-- The greatest version that is not above a stamp. -/
def atV (l : List VV) (s : St) : VV := l.getD (uptoV l s - 1) zeroV
def atX (l : List VV) (s : St) : VV := if uptoV l s = 0 then zeroV else atV l s
def atB (l : List VV) (s : St) : Bool := decide (0 < uptoV l s)
def VV.cells (v : VV) (A : Option Addr) (c : Nat) : Array Value := #[.int .i64 v.m, .int .i64 v.c, .int .i64 v.o, .slice A v.d.length c, .bool v.g, .int .i64 v.t]
/-- A version as an answer: its bytes are of its own. -/
def AtPost (v : VV) (b : Bool) (w : World) (e : Ending) (w' : World) : Prop :=
  ∃ A c, e = .returned (.tuple #[.agg (v.cells A c), .bool b]) ∧ w'.ownsRow w.heap.size 5 1 (.slice A v.d.length c) v.d.length (cB v.d) ∧ Chg [] w w'
set_option maxRecDepth 100000 in
set_option maxHeartbeats 6400000 in
theorem atC_raw (w : World) (gn : Nat) (A : Option Addr) (c : Nat) (ms : List VrV) (H : ChP 65 gn A c ms w) (hn : ms.length ≤ 1000000) (sm sc : Int) (hd : ∀ m ∈ ms, m.val.length ≤ 1099511627776) :
    Calls Try.prog 21 #[.pointer (some ⟨gn, 0, none⟩), .agg #[.int .i64 sm, .int .i64 sc]] w (AtPost (atX (ms.map VrV.v) ⟨sm, sc⟩) (atB (ms.map VrV.v) ⟨sm, sc⟩) w) := by
  have HX := Lib.hid ((At.new w 25 #[.int .i64 sm, .int .i64 sc]).al (.cells #[.int .i64 0, .int .i64 0, .int .i64 0, .slice none 0 0, .bool false, .int .i64 0] 28))
  have HZ := Lib.hid (At.newG (w.alloc (.cells #[.int .i64 sm, .int .i64 sc] 25)) 28 #[.int .i64 0, .int .i64 0, .int .i64 0, .slice none 0 0, .bool false, .int .i64 0] (g := w.heap.size + 1) (by simp))
  have HQ := Lib.hid (((Chg.refl [] w).alloc (.cells #[.int .i64 sm, .int .i64 sc] 25)).alloc (.cells #[.int .i64 0, .int .i64 0, .int .i64 0, .slice none 0 0, .bool false, .int .i64 0] 28))
  have HH := Lib.hid (H.keep HQ.out)
  have HUP := Lib.hid (uptoC_raw _ gn A c ms HH.out hn sm sc)
  have HAX : Hid (atX (ms.map VrV.v) ⟨sm, sc⟩ = if uptoV (ms.map VrV.v) ⟨sm, sc⟩ = 0 then zeroV else (ms.map VrV.v).getD (uptoV (ms.map VrV.v) ⟨sm, sc⟩ - 1) zeroV) := rfl
  have HAB : Hid (atB (ms.map VrV.v) ⟨sm, sc⟩ = decide (0 < uptoV (ms.map VrV.v) ⟨sm, sc⟩)) := rfl
  have hle := uptoV_le (ms.map VrV.v) ⟨sm, sc⟩
  rw [List.length_map] at hle
  generalize uptoV (ms.map VrV.v) ⟨sm, sc⟩ = n at *
  generalize atX (ms.map VrV.v) ⟨sm, sc⟩ = vx at *
  generalize atB (ms.map VrV.v) ⟨sm, sc⟩ = bx at *
  have x0 := HX.out.cell 0
  have x1 := HX.out.cell 1
  go_enter Try.func21, Try.ntmps21
  go_wp2_with (fail)
  generalize hwz : (w.alloc (.cells #[.int .i64 sm, .int .i64 sc] 25)).alloc (.cells #[.int .i64 0, .int .i64 0, .int .i64 0, .slice none 0 0, .bool false, .int .i64 0] 28) = wz at *
  refine HUP.out.mono ?_
  rintro e w1 ⟨rfl, hc1⟩
  clear HUP x0 x1
  have HH1 := Lib.hid (HH.out.keep hc1)
  have HZ1 := Lib.hid (HZ.out.keep hc1 (by simp))
  have HC1 := Lib.hid (HQ.out.trans hc1 (by simp))
  clear HZ HH HX HQ hc1 hwz
  generalize hg0 : w.heap.size + 1 = g0 at *
  by_cases h0 : n = 0
  · subst h0
    obtain rfl : vx = zeroV := HAX.out
    obtain rfl : bx = false := HAB.out
    have u0 := HZ1.out.cell 0
    have u1 := HZ1.out.cell 1
    have u2 := HZ1.out.cell 2
    have u3 := HZ1.out.cell 3
    have u4 := HZ1.out.cell 4
    have u5 := HZ1.out.cell 5
    have fu0 := HZ1.out.free 0
    have fu1 := HZ1.out.free 1
    have fu2 := HZ1.out.free 2
    have fu3 := HZ1.out.free 3
    have fu4 := HZ1.out.free 4
    have fu5 := HZ1.out.free 5
    simp only [List.getElem?_toArray, List.getElem?_cons_zero, List.getElem?_cons_succ] at u0 u1 u2 u3 u4 u5
    go_wp2_with (fail)
    refine ret_ver2 (g := g0) (T := 28) (cs := #[.int .i64 0, .int .i64 0, .int .i64 0, .slice none 0 0, .bool false, .int .i64 0]) (v := .bool false) rfl Try.results21 rfl rfl ?_ ?_
    · have h := (((((HZ1.out.set_ 0 (.int .i64 0)).set_ 1 (.int .i64 0)).set_ 2 (.int .i64 0)).set_ 3 (.slice none 0 0)).set_ 4 (.bool false)).set_ 5 (.int .i64 0)
      simpa using h
    · have q9 : Chg [g0] w1 ((((((w1.setCell ⟨g0, 0, none⟩ (.int .i64 0)).setCell ⟨g0, 1, none⟩ (.int .i64 0)).setCell ⟨g0, 2, none⟩ (.int .i64 0)).setCell ⟨g0, 3, none⟩ (.slice none 0 0)).setCell ⟨g0, 4, none⟩ (.bool false)).setCell ⟨g0, 5, none⟩ (.int .i64 0)) := ((((((Chg.refl _ _).setCell (.inl (by simp)) _).setCell (.inl (by simp)) _).setCell (.inl (by simp)) _).setCell (.inl (by simp)) _).setCell (.inl (by simp)) _).setCell (.inl (by simp)) _
      exact ⟨none, 0, rfl, World.ownsRow_nil _ _ _ _, HC1.out.trans q9 (by simp; omega)⟩
  · obtain ⟨k, rfl⟩ : ∃ k, n = k + 1 := ⟨n - 1, by omega⟩
    have hk : k < ms.length := by omega
    rw [if_neg h0] at HAX
    obtain rfl : bx = true := HAB.out.trans (decide_eq_true (by omega))
    obtain rfl : vx = (ms[k]).v := by
      have h := HAX.out
      rw [Nat.add_sub_cancel, List.getD_eq_getElem?_getD, List.getElem?_eq_getElem (by rw [List.length_map]; exact hk), List.getElem_map] at h
      exact h
    have hkk : (((k + 1 : Nat) : Int)) = (k : Int) + 1 := rfl
    rw [hkk]
    have hne : ((k : Int) + 1 == 0) = false := by rw [beq_eq_false_iff_ne]; omega
    have hk0 : (0 : Int) ≤ (k : Int) := by omega
    have hk1 : (k : Int) < (ms.length : Int) := by omega
    have HR := Lib.hid (Rd.of_own HH1.out.row)
    have HD := Lib.hid (Rd.of_own (HH1.out.dat _ (List.getElem_mem hk)))
    have hdl := hd _ (List.getElem_mem hk)
    have hnil : (ms[k]).A = none → (ms[k]).cp = 0 := own_nil (HH1.out.dat _ (List.getElem_mem hk))
    obtain ⟨ad, rfl, had, hc0, hc⟩ := HR.out.getV hk
    have hc1 := hc 1 _ (by omega) rfl
    have hc2 := hc 2 _ (by omega) rfl
    have hc3 := hc 3 _ (by omega) rfl
    have hc4 := hc 4 _ (by omega) rfl
    have hc5 := hc 5 _ (by omega) rfl
    have a0 := HH1.out.at_.cell 0
    generalize ms[k] = y at *
    clear hc HR HAX HAB
    obtain ⟨m, q, o, A', d, p, g, t⟩ := y
    simp only [VrV.v] at hc0 hc1 hc2 hc3 hc4 hc5 HD hdl hnil ⊢
    have HOW := Lib.hid (ownC_any _ m q o A' p g t d HD.out hdl hnil)
    go_wp2_with (fail)
    refine HOW.out.mono ?_
    rintro e w5 ⟨A5, c5, rfl, hown5, hch5⟩
    have hz5 := HZ1.out.keep hch5 (by simp)
    have HZ5 := Lib.hid hz5
    have HC5 := Lib.hid (HC1.out.trans hch5 (by simp))
    have HO5 := Lib.hid hown5
    have hlt5 := HZ1.out.lt
    have hA5 : Hid (∀ j, (Value.slice A5 d.length c5).ownBlock = some j → g0 < j) := fun j hj => by have := (HO5.out.lt j hj).1; omega
    have hls : w.heap.size ≤ w1.heap.size := HC1.out.size
    have u0 := hz5.cell 0
    have u1 := hz5.cell 1
    have u2 := hz5.cell 2
    have u3 := hz5.cell 3
    have u4 := hz5.cell 4
    have u5 := hz5.cell 5
    have fu0 := hz5.free 0
    have fu1 := hz5.free 1
    have fu2 := hz5.free 2
    have fu3 := hz5.free 3
    have fu4 := hz5.free 4
    have fu5 := hz5.free 5
    simp only [List.getElem?_toArray, List.getElem?_cons_zero, List.getElem?_cons_succ] at u0 u1 u2 u3 u4 u5
    clear hz5 hown5 hch5 HOW hc0 hc1 hc2 hc3 hc4 hc5 HH1 HZ1
    go_wp2_with (fail)
    refine ret_ver2 (g := g0) (T := 28) (cs := #[.int .i64 m, .int .i64 q, .int .i64 o, .slice A5 d.length c5, .bool g, .int .i64 t]) (v := .bool true) rfl Try.results21 rfl rfl ?_ ?_
    · have h := (((((HZ5.out.set_ 0 (.int .i64 m)).set_ 1 (.int .i64 q)).set_ 2 (.int .i64 o)).set_ 3 (.slice A5 d.length c5)).set_ 4 (.bool g)).set_ 5 (.int .i64 t)
      simpa using h
    · have q9 : Chg [g0] w5 ((((((w5.setCell ⟨g0, 0, none⟩ (.int .i64 m)).setCell ⟨g0, 1, none⟩ (.int .i64 q)).setCell ⟨g0, 2, none⟩ (.int .i64 o)).setCell ⟨g0, 3, none⟩ (.slice A5 d.length c5)).setCell ⟨g0, 4, none⟩ (.bool g)).setCell ⟨g0, 5, none⟩ (.int .i64 t)) := ((((((Chg.refl _ _).setCell (.inl (by simp)) _).setCell (.inl (by simp)) _).setCell (.inl (by simp)) _).setCell (.inl (by simp)) _).setCell (.inl (by simp)) _).setCell (.inl (by simp)) _
      exact ⟨A5, c5, rfl, own_up (own_keep HO5.out q9 (fun j hj hm => by have := hA5.out j hj; simp at hm; omega)) hls, HC5.out.trans q9 (by simp; omega)⟩
end Go.Proofs.Ytmliclfepnebfaa
