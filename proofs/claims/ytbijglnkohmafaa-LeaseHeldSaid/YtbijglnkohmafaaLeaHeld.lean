
/-
  LeaseHeld: the walk of the law.
-/
import Derived.Test.YtbijglnkohmafaaLeaFull
import Derived.Test.YtbijglnkohmafaaOpenG
import Derived.Test.YtbijglnkohmafaaLeaD
namespace Go.Proofs.Ytbijglnkohmafaa
open Go.RowKit Go.Maps
set_option linter.unusedVariables false

theorem cS_flatH (l : List St) : (l.flatMap fun s => [Value.int .i64 s.m, .int .i64 s.c]) = cS l := by
  induction l with
  | nil => rfl
  | cons a l ih => rw [List.flatMap_cons, ih]; rfl
theorem cLI_flat (l : List Int) : (l.flatMap fun z => [Value.int .i64 z]) = cLI l := by
  induction l with
  | nil => rfl
  | cons a l ih => rw [List.flatMap_cons, ih]; rfl
theorem fnd_fresh {l : List LV} {q : Int} (h : ∀ x ∈ l, x.id < q) : fndL l q = none := by
  unfold fndL
  rw [List.find?_eq_none]
  intro x hx
  have := h x hx
  have h2 : x.id ≠ q := by omega
  simpa using h2
set_option linter.unusedSimpArgs false
set_option maxRecDepth 100000 in
set_option maxHeartbeats 12800000 in
theorem leaseHeld_law (w : World) (x : Sl St) (hx : Rd w 2 x.A x.ls.length (x.ls.flatMap fun s => [.int .i64 s.m, .int .i64 s.c]) ∧ x.ls.length ≤ x.c ∧ x.c ≤ maxLen ∧ x.ls.length * 16 ≤ 140737488351232 ∧ ∀ a ∈ x.ls, (Lit.int .i64 a.m).wf = true ∧ (Lit.int .i64 a.c).wf = true)
    (y : Sl Int) (hy : Rd w 1 y.A y.ls.length (y.ls.flatMap fun z => [.int .i64 z]) ∧ y.ls.length ≤ y.c ∧ y.c ≤ maxLen ∧ y.ls.length * 8 ≤ 140737488351232 ∧ ∀ z ∈ y.ls, (Lit.int .i64 z).wf = true)
    (now : Int) (hnow : (Lit.int .i64 now).wf = true) (o : St) (ho : (Lit.int .i64 o.m).wf = true ∧ (Lit.int .i64 o.c).wf = true) :
    Calls Try.prog 4 #[.slice x.A x.ls.length x.c, .slice y.A y.ls.length y.c, .int .i64 now, .agg #[.int .i64 o.m, .int .i64 o.c]] w fun e w' => e = .returned (.bool true) ∧ Chg [] w w' := by
  obtain ⟨om, oc⟩ := o
  obtain ⟨A, c, ls⟩ := x
  obtain ⟨Y, yc, us⟩ := y
  obtain ⟨rx, _, _, hxl, _⟩ := hx
  obtain ⟨ry, _, _, hyl, _⟩ := hy
  simp only at rx hxl ry hyl ⊢
  rw [cS_flatH] at rx
  rw [cLI_flat] at ry
  have q0 : Hid (Chg [] w (w.alloc (.cells #[.int .i64 om, .int .i64 oc] 29))) := (Chg.refl [] w).alloc _
  have z0 : Hid (At (w.alloc (.cells #[.int .i64 om, .int .i64 oc] 29)) w.heap.size 29 #[.int .i64 om, .int .i64 oc]) := At.new w _ _
  have RX := Lib.hid (rx.keep0 q0.out)
  have RY := Lib.hid (ry.keep0 q0.out)
  clear rx ry hnow ho
  by_cases h64 : 64 < ls.length
  · have hb : decide ((64 : Int) < (ls.length : Int)) = true := decide_eq_true (by omega)
    go_enter Try.func4, Try.ntmps4
    go_wp2_with (fail)
    go_ret
    exact ⟨rfl, q0.out⟩
  have hb : decide ((64 : Int) < (ls.length : Int)) = false := decide_eq_false (by omega)
  go_enter Try.func4, Try.ntmps4
  go_wp2_with (fail)
  generalize w.alloc (.cells #[.int .i64 om, .int .i64 oc] 29) = wb at *
  refine (lnew_all wb).mono ?_
  rintro e w1 ⟨gl, b, rfl, H1⟩
  have HH := Lib.hid H1
  clear H1 hb
  go_wp2_with (fail)
  go_loopw [11, 10] (fun i m wr => ∃ k q : Nat, k ≤ ls.length ∧ q ≤ k ∧ i = .int .i64 k ∧ m = .int .i64 q ∧ Hid (∃ l : List LV, LsH wb wr gl b l q ∧ l.length = q ∧ ∀ x ∈ l, x.id < (q : Int))) (fun i _ _ => ls.length - (intOf i).toNat)
  case atStart => exact ⟨0, 0, Nat.zero_le _, Nat.le_refl _, rfl, rfl, [], HH.out, rfl, by simp⟩
  case round =>
    clear HH
    obtain ⟨k, q, hk, hqk, rfl, rfl, HR⟩ := hrel
    obtain ⟨l, hL, hl, hF⟩ := HR.out
    have HL := Lib.hid hL
    have HF := Lib.hid hF
    by_cases hlt : k < ls.length
    · have hki : (k : Int) < (ls.length : Int) := by omega
      have hcb := hL.chg
      have hY := RY.out.keep0 hcb
      obtain ⟨ad, hA, had, g0, g1⟩ := (RX.out).getS hlt
      subst hA
      generalize ls[k] = s at *
      obtain ⟨sm, sc⟩ := s
      simp only at g0 g1
      have hadk : (ad.add (k * 2)).block < wb.heap.size := by rw [add_block]; exact had
      have KL : Hid (∀ w', Chg [] wb w' → w'.cell? (ad.add (k * 2)) = some (.int .i64 sm) ∧ w'.cell? ⟨(ad.add (k * 2)).block, (ad.add (k * 2)).off + 1, none⟩ = some (.int .i64 sc) ∧ (ad.add (k * 2)).block < w'.heap.size) := fun w' hc => ⟨(hc.cell hadk (by simp)).trans g0, (hc.cell (p := ⟨(ad.add (k * 2)).block, (ad.add (k * 2)).off + 1, none⟩) hadk (by simp)).trans g1, Nat.lt_of_lt_of_le hadk hc.size⟩
      obtain ⟨g0, g1, _⟩ := KL.out wr hcb
      clear HR hL hF hcb had hadk
      by_cases hlu : k < us.length
      case' pos =>
        obtain ⟨ad2, v, rfl, had2, hv, hc2⟩ := hY.get hlu
        obtain rfl : Value.int .i64 us[k] = v := by rw [cLI_get hlu] at hv; simpa using hv
        have hku : (k : Int) < (us.length : Int) := by omega
        generalize us[k] = u at *
        clear hv hY had2
        go_wp2_with (fail)
        clear hc2
      case' neg =>
        have hku : ¬ (k : Int) < (us.length : Int) := by omega
        clear hY
        go_wp2_with (fail)
        generalize (5 : Int) = u
      all_goals
        clear hku hlu
        cases hs : isS sm sc
        · refine (open_arg HL.out sm sc u (.inl hs)).mono ?_
          rintro e w3 ⟨rfl, hc3⟩
          have H3 := Lib.hid (HL.out.k0 hc3)
          obtain ⟨g0, g1, _⟩ := KL.out w3 H3.out.chg
          clear hc3
          go_wp2_with (fail)
          refine (refIs_no sm sc _ hs).mono ?_
          rintro e w4 ⟨rfl, hc4⟩
          obtain ⟨Q, hQ⟩ : ∃ Q, Q = q := ⟨_, rfl⟩
          have HRR : Hid (∃ l : List LV, LsH wb w4 gl b l Q ∧ l.length = Q ∧ ∀ x ∈ l, x.id < (Q : Int)) := by rw [hQ]; exact ⟨l, H3.out.k0 hc4, hl, HF.out⟩
          clear hc4 H3 HL HF
          go_wp2_with (fail)
          go_roundw
          case rel => exact ⟨k + 1, q, by omega, by omega, by go_num, rfl, by rw [hQ] at HRR; exact HRR⟩
          case measure => simp [intOf]; omega
        by_cases hu : u < 0
        · have hub : decide (u < 0) = true := decide_eq_true hu
          refine (open_arg HL.out sm sc u (.inr hu)).mono ?_
          rintro e w3 ⟨rfl, hc3⟩
          have H3 := Lib.hid (HL.out.k0 hc3)
          obtain ⟨g0, g1, _⟩ := KL.out w3 H3.out.chg
          clear hc3
          go_wp2_with (fail)
          refine (refIs_yes sm sc _ hs).mono ?_
          rintro e w4 ⟨rfl, hc4⟩
          obtain ⟨Q, hQ⟩ : ∃ Q, Q = q := ⟨_, rfl⟩
          have HRR : Hid (∃ l : List LV, LsH wb w4 gl b l Q ∧ l.length = Q ∧ ∀ x ∈ l, x.id < (Q : Int)) := by rw [hQ]; exact ⟨l, H3.out.k0 hc4, hl, HF.out⟩
          clear hc4 H3 HL HF
          go_wp2_with (fail)
          go_roundw
          case rel => exact ⟨k + 1, q, by omega, by omega, by go_num, rfl, by rw [hQ] at HRR; exact HRR⟩
          case measure => simp [intOf]; omega
        have hub : decide (u < 0) = false := decide_eq_false hu
        refine (open_yes HL.out sm sc u hs (by omega) (by omega) (by omega) (fnd_fresh HF.out)).mono ?_
        rintro e w3 ⟨rfl, hL3, _⟩
        have H3 := Lib.hid hL3
        obtain ⟨g0, g1, _⟩ := KL.out w3 H3.out.chg
        have hfn : Hid (fndL (l ++ [⟨q, sm, sc, u⟩]) q = some ⟨q, sm, sc, u⟩) := by
          unfold Hid
          rw [fndL_app, fnd_fresh HF.out]; simp
        have hin : Hid ((l ++ [(⟨q, sm, sc, u⟩ : LV)]).length = q + 1 ∧ ∀ x ∈ l ++ [(⟨q, sm, sc, u⟩ : LV)], x.id < ((q + 1 : Nat) : Int)) := by
          refine ⟨by rw [List.length_append, hl]; rfl, fun x hx => ?_⟩
          rcases List.mem_append.1 hx with h | h
          · have := HF.out x h; omega
          · obtain rfl := List.mem_singleton.1 h
            show (q : Int) < _
            omega
        clear hL3 HL HF
        go_wp2_with (fail)
        refine (refIs_yes sm sc _ hs).mono ?_
        rintro e w4 ⟨rfl, hc4⟩
        have H4 := Lib.hid (H3.out.k0 hc4)
        clear hc4 H3
        go_wp2_with (fail)
        obtain ⟨Q, hQ⟩ : ∃ Q, Q = q + 1 := ⟨_, rfl⟩
        by_cases hnu : u ≤ now
        · have hnb : decide (u ≤ now) = true := decide_eq_true hnu
          refine (at_old H4.out q now (wf_small (by omega) (by omega)) _ hfn.out hnu).mono ?_
          rintro e w5 ⟨rfl, hc5⟩
          have HRR : Hid (∃ l : List LV, LsH wb (w5.alloc (.cells #[.int .i64 0, .int .i64 0] 29)) gl b l Q ∧ l.length = Q ∧ ∀ x ∈ l, x.id < (Q : Int)) := by rw [hQ]; exact ⟨_, H4.out.k0 (hc5.alloc _), hin.out⟩
          clear hc5 H4 g0 g1
          go_wp2_with (fail)
          go_roundw
          case rel => exact ⟨k + 1, q + 1, by omega, by omega, by go_num, by go_num, by rw [hQ] at HRR; exact HRR⟩
          case measure => simp [intOf]; omega
        · have hnb : decide (u ≤ now) = false := decide_eq_false hnu
          refine (at_yes H4.out q now (wf_small (by omega) (by omega)) _ hfn.out (by show now < u; omega)).mono ?_
          rintro e w5 ⟨rfl, hc5⟩
          have hq5 := hc5.alloc (.cells #[.int .i64 sm, .int .i64 sc] 29)
          have HZ := Lib.hid (H4.out.k0 hq5)
          have HT := Lib.hid (At.new w5 29 #[.int .i64 sm, .int .i64 sc])
          clear hc5 H4 g0 g1 hq5
          go_wp2_with (fail)
          generalize hgt : w5.heap.size = gt at *
          generalize w5.alloc (.cells #[.int .i64 sm, .int .i64 sc] 29) = wz at *
          have KK : Hid (∀ w', Chg [] wz w' → w'.cell? ⟨gt, 0, none⟩ = some (.int .i64 sm) ∧ w'.cell? ⟨gt, 1, none⟩ = some (.int .i64 sc) ∧ w'.cell? ⟨w.heap.size, 0, none⟩ = some (.int .i64 om) ∧ w'.cell? ⟨w.heap.size, 1, none⟩ = some (.int .i64 oc) ∧ w'.cell? (ad.add (k * 2)) = some (.int .i64 sm) ∧ w'.cell? ⟨(ad.add (k * 2)).block, (ad.add (k * 2)).off + 1, none⟩ = some (.int .i64 sc)) := fun w' hc => ⟨(HT.out.keep hc (by simp)).cell 0, (HT.out.keep hc (by simp)).cell 1, (z0.out.keep (HZ.out.chg.trans hc (by simp)) (by simp)).cell 0, (z0.out.keep (HZ.out.chg.trans hc (by simp)) (by simp)).cell 1, (KL.out w' (HZ.out.chg.trans hc (by simp))).1, (KL.out w' (HZ.out.chg.trans hc (by simp))).2.1⟩
          have hadw := (KL.out wz HZ.out.chg).2.2
          refine wp_region_held_drew (S := fun w' => w'.cell? ⟨gt, 0, none⟩ = some (.int .i64 sm) ∧ w'.cell? ⟨gt, 1, none⟩ = some (.int .i64 sc) ∧ w'.cell? ⟨w.heap.size, 0, none⟩ = some (.int .i64 om) ∧ w'.cell? ⟨w.heap.size, 1, none⟩ = some (.int .i64 oc) ∧ w'.cell? (ad.add (k * 2)) = some (.int .i64 sm) ∧ w'.cell? ⟨(ad.add (k * 2)).block, (ad.add (k * 2)).off + 1, none⟩ = some (.int .i64 sc)) (by kernel_rfl) ?_ (fun hHeld => ?_)
          · exact KK.out _ ((Chg.refl [] wz).drew)
          refine takeW (i := 0) (d := (some 81)) (v := ?_) rfl rfl (by kernel_rfl) (by kernel_rfl) (by kernel_rfl) (fun _ _ _ h => h) (by rfl) ?_ (by assumption) ?_
          rotate_left
          · intro w' hSw; (try dsimp only at hSw); go_simp; try with_reducible rfl
          try simp only [Act.put, List.setIfInBounds_toArray, List.set_cons_zero, List.set_cons_succ]
          refine takeW (i := 1) (d := (some 82)) (v := ?_) rfl rfl (by kernel_rfl) (by kernel_rfl) (by kernel_rfl) (fun _ _ _ h => h) (by rfl) ?_ (by assumption) ?_
          rotate_left
          · intro w' hSw; (try dsimp only at hSw); go_simp; try with_reducible rfl
          try simp only [Act.put, List.setIfInBounds_toArray, List.set_cons_zero, List.set_cons_succ]
          refine takeW (i := 2) (d := (some 83)) (v := ?_) rfl rfl (by kernel_rfl) (by kernel_rfl) (by kernel_rfl) (fun _ _ _ h => h) (by rfl) ?_ (by assumption) ?_
          rotate_left
          · intro w' hSw; (try dsimp only at hSw); go_simp; try with_reducible rfl
          try simp only [Act.put, List.setIfInBounds_toArray, List.set_cons_zero, List.set_cons_succ]
          refine takeW (i := 3) (d := (some 84)) (v := ?_) rfl rfl (by kernel_rfl) (by kernel_rfl) (by kernel_rfl) (fun _ _ _ h => h) (by rfl) ?_ (by assumption) ?_
          rotate_left
          · intro w' hSw; (try dsimp only at hSw); go_simp; try with_reducible rfl
          try simp only [Act.put, List.setIfInBounds_toArray, List.set_cons_zero, List.set_cons_succ]
          refine takeW (i := 4) (d := (some 85)) (v := ?_) rfl rfl (by kernel_rfl) (by kernel_rfl) (by kernel_rfl) (fun _ _ _ h => h) (by rfl) ?_ (by assumption) ?_
          rotate_left
          · intro w' hSw; (try dsimp only at hSw); go_simp; try with_reducible rfl
          try simp only [Act.put, List.setIfInBounds_toArray, List.set_cons_zero, List.set_cons_succ]
          refine takeW (i := 5) (d := (some 86)) (v := ?_) rfl rfl (by kernel_rfl) (by kernel_rfl) (by kernel_rfl) (fun _ _ _ h => h) (by rfl) ?_ (by assumption) ?_
          rotate_left
          · intro w' hSw; (try dsimp only at hSw); go_simp; try with_reducible rfl
          try simp only [Act.put, List.setIfInBounds_toArray, List.set_cons_zero, List.set_cons_succ]
          refine takeW (i := 6) (d := (some 87)) (v := ?_) rfl rfl (by kernel_rfl) (by kernel_rfl) (by kernel_rfl) (fun _ _ _ h => h) (by rfl) ?_ (by assumption) ?_
          rotate_left
          · intro w' hSw; (try dsimp only at hSw); go_simp; try with_reducible rfl
          try simp only [Act.put, List.setIfInBounds_toArray, List.set_cons_zero, List.set_cons_succ]
          refine takeW (i := 7) (d := (some 88)) (v := ?_) rfl rfl (by kernel_rfl) (by kernel_rfl) (by kernel_rfl) (fun _ _ _ h => h) (by rfl) ?_ (by assumption) ?_
          rotate_left
          · intro w' hSw; (try dsimp only at hSw); go_simp; try with_reducible rfl
          try simp only [Act.put, List.setIfInBounds_toArray, List.set_cons_zero, List.set_cons_succ]
          refine takeW (i := 8) (d := (some 89)) (v := ?_) rfl rfl (by kernel_rfl) (by kernel_rfl) (by kernel_rfl) (fun _ _ _ h => h) (by rfl) ?_ (by assumption) ?_
          rotate_left
          · intro w' hSw; (try dsimp only at hSw); go_simp; try with_reducible rfl
          try simp only [Act.put, List.setIfInBounds_toArray, List.set_cons_zero, List.set_cons_succ]
          refine takeW (i := 9) (d := (some 90)) (v := ?_) rfl rfl (by kernel_rfl) (by kernel_rfl) (by kernel_rfl) (fun _ _ _ h => h) (by rfl) ?_ (by assumption) ?_
          rotate_left
          · intro w' hSw; (try dsimp only at hSw); go_simp; try with_reducible rfl
          try simp only [Act.put, List.setIfInBounds_toArray, List.set_cons_zero, List.set_cons_succ]
          refine takeW (i := 10) (d := (some 91)) (v := ?_) rfl rfl (by kernel_rfl) (by kernel_rfl) (by kernel_rfl) (fun _ _ _ h => h) (by rfl) ?_ (by assumption) ?_
          rotate_left
          · intro w' hSw; (try dsimp only at hSw); go_simp; try with_reducible rfl
          try simp only [Act.put, List.setIfInBounds_toArray, List.set_cons_zero, List.set_cons_succ]
          refine takeW (i := 11) (d := (some 92)) (v := ?_) rfl rfl (by kernel_rfl) (by kernel_rfl) (by kernel_rfl) (fun _ _ _ h => h) (by rfl) ?_ (by assumption) ?_
          rotate_left
          · intro w' hSw; (try dsimp only at hSw); go_simp; try with_reducible rfl
          try simp only [Act.put, List.setIfInBounds_toArray, List.set_cons_zero, List.set_cons_succ]
          refine takeW (i := 12) (d := (some 93)) (v := ?_) rfl rfl (by kernel_rfl) (by kernel_rfl) (by kernel_rfl) (fun _ _ _ h => h) (by rfl) ?_ (by assumption) ?_
          rotate_left
          · intro w' hSw; (try dsimp only at hSw); go_simp; try with_reducible rfl
          try simp only [Act.put, List.setIfInBounds_toArray, List.set_cons_zero, List.set_cons_succ]
          refine takeW (i := 14) (d := (some 95)) (v := ?_) rfl rfl (by kernel_rfl) (by kernel_rfl) (by kernel_rfl) (fun _ _ _ h => h) (by rfl) ?_ (by assumption) ?_
          rotate_left
          · intro w' hSw; (try dsimp only at hSw); go_simp; try with_reducible rfl
          try simp only [Act.put, List.setIfInBounds_toArray, List.set_cons_zero, List.set_cons_succ]
          refine wpAnyH_ready (rs := [13]) (by kernel_rfl) (by simp) ?_
          refine AllReadyH.cons rfl (fun K hK => ?_) AllReadyH.nil
          go_simp
          go_at_call 15
          (with_reducible refine (floor_all (HZ.out.k0 ((Chg.refl [] wz).drew)) om oc).mono ?_)
          rintro e v1 ⟨f, rfl, hf, hcc⟩
          have hv1 : Hid (Chg [] wz v1) := ((Chg.refl [] wz).drew).trans hcc (by simp)
          have HFl := Lib.hid hf
          clear hcc hf
          go_wp2_with (fail)
          refine hK.out _ _ ?_ (fun hHeld => ?_)
          · first | exact KK.out _ hv1.out | (dsimp only; exact KK.out _ hv1.out)
          clear hK K
          try simp only [Act.put, List.setIfInBounds_toArray, List.set_cons_zero, List.set_cons_succ]
          refine wpAnyH_ready (rs := [15]) (by kernel_rfl) (by simp) ?_
          refine AllReadyH.cons rfl (fun K hK => ?_) AllReadyH.nil
          go_simp
          go_at_call 14
          (with_reducible refine (refCompare_any f.m f.c sm sc _).mono ?_)
          rintro e v2 ⟨rfl, hcc⟩
          have hv2 : Hid (Chg [] wz v2) := hv1.out.trans hcc (by simp)
          have hcmp : decide (0 < cmpS ⟨f.m, f.c⟩ ⟨sm, sc⟩) = false := decide_eq_false (by
            have h9 := HFl.out.all ⟨q, sm, sc, u⟩ (List.mem_append_right _ (List.mem_singleton.2 rfl))
            have h8 : cmpS ⟨f.m, f.c⟩ ⟨sm, sc⟩ ≤ 0 := h9
            omega)
          clear hcc
          go_wp2_with (fail)
          refine hK.out _ _ ?_ (fun hHeld => ?_)
          · first | exact KK.out _ hv2.out | (dsimp only; exact KK.out _ hv2.out)
          clear hK K
          try simp only [Act.put, List.setIfInBounds_toArray, List.set_cons_zero, List.set_cons_succ]
          refine takeW (i := 16) (d := (some 97)) (v := ?_) rfl rfl (by kernel_rfl) (by kernel_rfl) (by kernel_rfl) (fun _ _ _ h => h) (by rfl) ?_ (by assumption) ?_
          rotate_left
          · intro w' hSw; (try dsimp only at hSw); go_simp; try with_reducible rfl
          try simp only [Act.put, List.setIfInBounds_toArray, List.set_cons_zero, List.set_cons_succ]
          refine takeW (i := 17) (d := (some 98)) (v := ?_) rfl rfl (by kernel_rfl) (by kernel_rfl) (by kernel_rfl) (fun _ _ _ h => h) (by rfl) ?_ (by assumption) ?_
          rotate_left
          · intro w' hSw; (try dsimp only at hSw); go_simp; try with_reducible rfl
          try simp only [Act.put, List.setIfInBounds_toArray, List.set_cons_zero, List.set_cons_succ]
          refine wpAnyH_done (by kernel_rfl) ?_ _
          have HRR : Hid (∃ l : List LV, LsH wb v2 gl b l (q + 1) ∧ l.length = q + 1 ∧ ∀ x ∈ l, x.id < ((q + 1 : Nat) : Int)) := ⟨_, HZ.out.k0 hv2.out, hin.out⟩
          clear HZ KK HFl
          go_wp2_with (fail)
          go_roundw
          case rel => exact ⟨k + 1, q + 1, by omega, by omega, by go_num, by go_num, HRR⟩
          case measure => simp [intOf]; omega
    · obtain rfl : k = ls.length := by omega
      have hki : ¬ (ls.length : Int) < (ls.length : Int) := by omega
      clear HR hL
      obtain ⟨x0, x1, _⟩ := (z0.out.keep HL.out.chg (by simp)).st
      go_wp2_with (fail)
      refine (expire_all HL.out now (by omega)).mono ?_
      rintro e v1 ⟨rfl, H1, _⟩
      have HE := Lib.hid H1
      have hle : (expL l now).length ≤ q := by rw [← hl]; exact List.length_filter_le _ _
      clear H1 HL HF x0 x1
      obtain ⟨x0, x1, _⟩ := (z0.out.keep HE.out.chg (by simp)).st
      go_wp2_with (fail)
      refine (floor_all HE.out om oc).mono ?_
      rintro e v2 ⟨f, rfl, hf, hc2⟩
      have q2 := hc2.alloc (.cells #[.int .i64 f.m, .int .i64 f.c] 29)
      have H2 := Lib.hid (HE.out.k0 q2)
      have zt := At.new v2 29 #[.int .i64 f.m, .int .i64 f.c]
      obtain ⟨y0, y1, _⟩ := zt.st
      have hfo : decide (cmpS ⟨f.m, f.c⟩ ⟨om, oc⟩ ≤ 0) = true := decide_eq_true hf.le
      clear HE x0 x1 zt q2 hc2 hf
      obtain ⟨x0, x1, _⟩ := (z0.out.keep H2.out.chg (by simp)).st
      go_wp2_with (fail)
      refine (refCompare_any f.m f.c om oc _).mono ?_
      rintro e v3 ⟨rfl, hc3⟩
      have H3 := Lib.hid (H2.out.k0 hc3)
      clear H2 hc3 x0 x1 y0 y1
      have hlq : decide (((expL l now).length : Int) ≤ (q : Int)) = true := decide_eq_true (by omega)
      go_wp2_with (fail)
      refine (llen_all H3.out).mono ?_
      rintro e v4 ⟨rfl, rfl⟩
      go_wp2_with (fail)
      refine (knownLe_any _).mono ?_
      rintro e v5 ⟨rfl, hc5⟩
      go_wp2_with (fail)
      go_ret
      exact ⟨rfl, (q0.out.trans H3.out.chg (by simp)).trans hc5 (by simp)⟩
end Go.Proofs.Ytbijglnkohmafaa
