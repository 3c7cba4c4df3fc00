
/-
  LeasePlays: the walk of the law.
-/
import Derived.Test.YtbijglnkohmafaaLeaP
import Derived.Test.YtbijglnkohmafaaLeaK
import Derived.Test.YtbijglnkohmafaaOpenI
import Derived.Deep.CutBlock
namespace Go.Proofs.Ytbijglnkohmafaa
open Go.RowKit Go.Maps
set_option linter.unusedVariables false
set_option linter.unusedSimpArgs false
theorem RdI.get6w {w : World} {A : Option Addr} {n : Nat} (h : RdI w 6 A n) {k : Nat} (hk : k < n) : ∃ (ad : Addr) (a b c d f g : Int), A = some ad ∧ ad.block < w.heap.size ∧
    w.cell? (ad.add (k * 6)) = some (.int .i64 a) ∧ w.cell? ⟨(ad.add (k * 6)).block, (ad.add (k * 6)).off + 1, none⟩ = some (.int .i64 b) ∧ w.cell? ⟨(ad.add (k * 6)).block, (ad.add (k * 6)).off + 2, none⟩ = some (.int .i64 c) ∧ w.cell? ⟨(ad.add (k * 6)).block, (ad.add (k * 6)).off + 3, none⟩ = some (.int .i64 d) ∧
    w.cell? ⟨(ad.add (k * 6)).block, (ad.add (k * 6)).off + 4, none⟩ = some (.int .i64 f) ∧ w.cell? ⟨(ad.add (k * 6)).block, (ad.add (k * 6)).off + 5, none⟩ = some (.int .i64 g) ∧ (Lit.int .i64 b).wf = true ∧ (Lit.int .i64 d).wf = true := by
  obtain ⟨ad, e, hb, hc⟩ := h.get hk
  obtain ⟨a, h0, _⟩ := hc 0 (by omega)
  obtain ⟨b, h1, b1, b2⟩ := hc 1 (by omega)
  obtain ⟨c, h2, _⟩ := hc 2 (by omega)
  obtain ⟨d, h3, d1, d2⟩ := hc 3 (by omega)
  obtain ⟨f, h4, _⟩ := hc 4 (by omega)
  obtain ⟨g, h5, _⟩ := hc 5 (by omega)
  exact ⟨ad, a, b, c, d, f, g, e, hb, h0, h1, h2, h3, h4, h5, WalkArith.wf_i64 (by omega), WalkArith.wf_i64 (by omega)⟩
set_option maxRecDepth 100000 in
set_option maxHeartbeats 12800000 in
theorem leasePlays_law (w : World) (A : Option Addr) (n c : Nat) (hr : RdI w 6 A n) (_ : n ≤ c) (hcm : c ≤ maxLen) :
    Calls Try.prog 6 #[.slice A n c] w fun e w' => e = .returned (.bool true) ∧ Chg [] w w' := by
  have hnm : n ≤ 9223372036854775807 := by unfold maxLen at hcm; omega
  clear hcm
  go_enter Try.func6, Try.ntmps6
  go_wp2_with (fail)
  refine (lnew_all w).mono ?_
  rintro e w1 ⟨gl, b, rfl, h1⟩
  have HB : Hid (Bo w gl b w1.heap.size [] 0 [] 0 (w1.alloc (.cells #[.slice none 0 0, .int .i64 0] 48))) := by
    have q := (Chg.refl [] w1).alloc (.cells #[.slice none 0 0, .int .i64 0] 48)
    exact ⟨none, 0, h1.k0 q, At.new w1 _ _, own_none _ _ _ _, h1.chg.size, h1.chg.trans q (by simp)⟩
  clear h1
  go_wp2_with (fail)
  generalize w1.alloc (.cells #[.slice none 0 0, .int .i64 0] 48) = w2 at *
  generalize w1.heap.size = gx at *
  go_loopg [5] n (fun g i wr => ∃ (k : Nat) (l : List LV) (nx : Nat), g = n - k ∧ k ≤ n ∧ k ≤ 200 ∧ i = .int .i64 k ∧ Hid (LInv l nx k) ∧ Hid (Bo w gl b gx l nx l nx wr))
  case atStart => exact ⟨0, [], 0, rfl, Nat.zero_le _, Nat.zero_le _, rfl, LInv.nil, HB.out⟩
  case round =>
    clear HB
    obtain ⟨k, l, nx, hg, hkl, hk2, rfl, HI, HB⟩ := hrel
    have Hg := Lib.hid hg
    clear hg
    by_cases hlt : k < n ∧ k < 200
    · obtain ⟨hlt, h200⟩ := hlt
      obtain ⟨ad, kd, id, nn, mm, sm, sc, rfl, had, c0, c1, c2, c3, c4, c5, hwf1, hwf3⟩ := (hr.keep0 HB.out.chg).get6w hlt
      have hki : (k : Int) < (n : Int) := by omega
      have hk3 : (k : Int) < 200 := by omega
      go_upto_block 2 with (fail)
      go_cut [7] (fun s7 wx => s7 = .bool true ∧ ∃ l' n', LInv l' n' (k + 1) ∧ Bo w gl b gx l' n' l' n' wx ∧ At wx wr.heap.size 50 #[.int .i64 kd, .int .i64 id, .int .i64 nn, .int .i64 mm, .int .i64 sm, .int .i64 sc])
      case first =>
        have HT := Lib.hid (At.new wr 50 #[.int .i64 kd, .int .i64 id, .int .i64 nn, .int .i64 mm, .int .i64 sm, .int .i64 sc])
        have HB := Lib.hid (HB.out.quiet ((Chg.refl [] wr).alloc (.cells #[.int .i64 kd, .int .i64 id, .int .i64 nn, .int .i64 mm, .int .i64 sm, .int .i64 sc] 50)))
        clear c0 c1 c2 c3 c4 c5
        generalize wr.alloc (.cells #[.int .i64 kd, .int .i64 id, .int .i64 nn, .int .i64 mm, .int .i64 sm, .int .i64 sc] 50) = ws at *
        generalize wr.heap.size = g6 at *
        by_cases z1 : kd = 1
        · subst kd
          obtain ⟨r1, HR1⟩ : ∃ z, Hid (opI l nx sm sc nn = z) := ⟨_, rfl⟩
          obtain ⟨r2, HR2⟩ : ∃ z, Hid (opE l sm sc nn = z) := ⟨_, rfl⟩
          obtain ⟨l', HL⟩ : ∃ z, Hid (opL l nx sm sc nn = z) := ⟨_, rfl⟩
          obtain ⟨n', HN⟩ : ∃ z, Hid (opN l nx sm sc nn = z) := ⟨_, rfl⟩
          have HI2 : Hid (LInv l' n' (k + 1)) := by rw [← HL.out, ← HN.out]; exact HI.out.open sm sc nn
          have C1 := Lib.hid (fun w' (h : Bo w gl b gx l nx l nx w') => bOpen h sm sc nn HI.out.len (by have := HI.out.n; omega) HI.out.fresh)
          have C2 := Lib.hid (fun w' (h : Bo w gl b gx l' n' l nx w') => rOpen h sm sc nn HI.out.len (by have := HI.out.n; omega))
          rw [HR1.out, HR2.out, HL.out, HN.out] at C1 C2
          have x0 := HT.out.cell 0
          have x2 := HT.out.cell 2
          have x4 := HT.out.cell 4
          have x5 := HT.out.cell 5
          go_wp2_with (fail)
          refine (C1.out _ HB.out).mono ?_
          rintro e w3 ⟨rfl, hB, hS⟩
          have HB3 := Lib.hid hB
          have HT3 := Lib.hid (hS _ _ _ (by decide) (by decide) (by decide) HT.out)
          clear hB hS x0 x2 x4 x5 HB HT
          have x2 := HT3.out.cell 2
          have x4 := HT3.out.cell 4
          have x5 := HT3.out.cell 5
          go_wp2_with (fail)
          refine (C2.out _ HB3.out).mono ?_
          rintro e w4 ⟨rfl, hB, hS⟩
          have HB4 := Lib.hid hB
          have HT4 := Lib.hid (hS _ _ _ (by decide) (by decide) (by decide) HT3.out)
          clear hB hS x2 x4 x5
          go_wp2_with (fail)
          go_meet
          exact ⟨rfl, l', n', HI2.out, HB4.out, HT4.out⟩
        · by_cases z2 : kd = 2
          · subst kd
            obtain ⟨r1, HR1⟩ : ∃ z, Hid (atM l id nn = z) := ⟨_, rfl⟩
            obtain ⟨r2, HR2⟩ : ∃ z, Hid (atC l id nn = z) := ⟨_, rfl⟩
            obtain ⟨r3, HR3⟩ : ∃ z, Hid (atE l id nn = z) := ⟨_, rfl⟩
            have C1 := Lib.hid (fun w' (h : Bo w gl b gx l nx l nx w') => bAt h id nn hwf1 )
            have C2 := Lib.hid (fun w' (h : Bo w gl b gx l nx l nx w') => rAtL h id nn HI.out.len)
            rw [HR1.out, HR2.out, HR3.out] at C1 C2
            have x0 := HT.out.cell 0
            have x1 := HT.out.cell 1
            have x2 := HT.out.cell 2
            go_wp2_with (fail)
            refine (C1.out _ HB.out).mono ?_
            rintro e w3 ⟨rfl, hB, hS⟩
            have q3 := (Chg.refl [] w3).alloc (.cells #[.int .i64 r1, .int .i64 r2] 29)
            have HB3 := Lib.hid (hB.quiet q3)
            have HT3 := Lib.hid ((hS _ _ _ (by decide) (by decide) (by decide) HT.out).keep q3 (by simp))
            have HV3 := Lib.hid (At.new w3 29 #[.int .i64 r1, .int .i64 r2])
            clear hB hS x0 x1 x2 HB HT q3
            have x1 := HT3.out.cell 1
            have x2 := HT3.out.cell 2
            go_wp2_with (fail)
            refine (C2.out _ HB3.out).mono ?_
            rintro e w4 ⟨rfl, hB, hS⟩
            have q4 := (Chg.refl [] w4).alloc (.cells #[.int .i64 r1, .int .i64 r2] 29)
            have HV4 := Lib.hid ((hS _ _ _ (by decide) (by decide) (by decide) HV3.out))
            have HB4 := Lib.hid (hB.quiet q4)
            have HT4 := Lib.hid ((hS _ _ _ (by decide) (by decide) (by decide) HT3.out).keep q4 (by simp))
            clear hB hS x1 x2 q4
            obtain ⟨y0, y1, _⟩ := HV4.out.st
            go_wp2_with (fail)
            go_meet
            exact ⟨rfl, l, nx, HI.out.up, HB4.out, HT4.out⟩
          · by_cases z3 : kd = 3
            · subst kd
              obtain ⟨r1, HR1⟩ : ∃ z, Hid (atE l id nn = z) := ⟨_, rfl⟩
              obtain ⟨l', HL⟩ : ∃ z, Hid (reL l id nn mm = z) := ⟨_, rfl⟩
              have HI2 : Hid (LInv l' nx (k + 1)) := by rw [← HL.out]; exact HI.out.renew id nn mm
              have C1 := Lib.hid (fun w' (h : Bo w gl b gx l nx l nx w') => bRenew h id nn mm hwf1 HI.out.len)
              have C2 := Lib.hid (fun w' (h : Bo w gl b gx l' nx l nx w') => rRenew h id nn mm HI.out.nd HI.out.len)
              rw [HR1.out, HL.out] at C1 C2
              have x0 := HT.out.cell 0
              go_wp2_with (fail)
              clear x0
              have KS : Hid (∀ w', At w' g6 50 #[.int .i64 3, .int .i64 id, .int .i64 nn, .int .i64 mm, .int .i64 sm, .int .i64 sc] → w'.cell? ⟨g6, 1, none⟩ = some (.int .i64 id) ∧ w'.cell? ⟨g6, 2, none⟩ = some (.int .i64 nn) ∧ w'.cell? ⟨g6, 3, none⟩ = some (.int .i64 mm)) := fun w' h => ⟨h.cell 1, h.cell 2, h.cell 3⟩
              refine wp_regionE 17 (fun w' => w'.cell? ⟨g6, 1, none⟩ = some (.int .i64 id) ∧ w'.cell? ⟨g6, 2, none⟩ = some (.int .i64 nn) ∧ w'.cell? ⟨g6, 3, none⟩ = some (.int .i64 mm)) (by kernel_rfl) ?_ (fun hHeld => ?_)
              · exact KS.out _ (HT.out.keep ((Chg.refl [] ws).drew) (by simp))
              have HB0 := Lib.hid (HB.out.quiet ((Chg.refl [] ws).drew))
              have HT0 := Lib.hid (HT.out.keep ((Chg.refl [] ws).drew) (by simp))
              generalize ws.drew = v0 at *
              refine takeWE (i := 0) (d := (some 95)) (v := ?_) rfl rfl (by kernel_rfl) (by kernel_rfl) (by kernel_rfl) (by kernel_rfl) (by kernel_rfl) (fun _ _ _ h => h) (by rfl) ?_ (by assumption) ?_
              rotate_left
              · intro w' hSw; (try dsimp only at hSw); go_simp; try with_reducible rfl
              try simp only [Act.put, List.setIfInBounds_toArray, List.set_cons_zero, List.set_cons_succ]
              refine takeWE (i := 1) (d := (some 96)) (v := ?_) rfl rfl (by kernel_rfl) (by kernel_rfl) (by kernel_rfl) (by kernel_rfl) (by kernel_rfl) (fun _ _ _ h => h) (by rfl) ?_ (by assumption) ?_
              rotate_left
              · intro w' hSw; (try dsimp only at hSw); go_simp; try with_reducible rfl
              try simp only [Act.put, List.setIfInBounds_toArray, List.set_cons_zero, List.set_cons_succ]
              refine takeWE (i := 2) (d := (some 97)) (v := ?_) rfl rfl (by kernel_rfl) (by kernel_rfl) (by kernel_rfl) (by kernel_rfl) (by kernel_rfl) (fun _ _ _ h => h) (by rfl) ?_ (by assumption) ?_
              rotate_left
              · intro w' hSw; (try dsimp only at hSw); go_simp; try with_reducible rfl
              try simp only [Act.put, List.setIfInBounds_toArray, List.set_cons_zero, List.set_cons_succ]
              refine takeWE (i := 3) (d := (some 98)) (v := ?_) rfl rfl (by kernel_rfl) (by kernel_rfl) (by kernel_rfl) (by kernel_rfl) (by kernel_rfl) (fun _ _ _ h => h) (by rfl) ?_ (by assumption) ?_
              rotate_left
              · intro w' hSw; (try dsimp only at hSw); go_simp; try with_reducible rfl
              try simp only [Act.put, List.setIfInBounds_toArray, List.set_cons_zero, List.set_cons_succ]
              refine takeWE (i := 4) (d := (some 99)) (v := ?_) rfl rfl (by kernel_rfl) (by kernel_rfl) (by kernel_rfl) (by kernel_rfl) (by kernel_rfl) (fun _ _ _ h => h) (by rfl) ?_ (by assumption) ?_
              rotate_left
              · intro w' hSw; (try dsimp only at hSw); go_simp; try with_reducible rfl
              try simp only [Act.put, List.setIfInBounds_toArray, List.set_cons_zero, List.set_cons_succ]
              refine takeWE (i := 5) (d := (some 100)) (v := ?_) rfl rfl (by kernel_rfl) (by kernel_rfl) (by kernel_rfl) (by kernel_rfl) (by kernel_rfl) (fun _ _ _ h => h) (by rfl) ?_ (by assumption) ?_
              rotate_left
              · intro w' hSw; (try dsimp only at hSw); go_simp; try with_reducible rfl
              try simp only [Act.put, List.setIfInBounds_toArray, List.set_cons_zero, List.set_cons_succ]
              refine takeWE (i := 6) (d := (some 101)) (v := ?_) rfl rfl (by kernel_rfl) (by kernel_rfl) (by kernel_rfl) (by kernel_rfl) (by kernel_rfl) (fun _ _ _ h => h) (by rfl) ?_ (by assumption) ?_
              rotate_left
              · intro w' hSw; (try dsimp only at hSw); go_simp; try with_reducible rfl
              try simp only [Act.put, List.setIfInBounds_toArray, List.set_cons_zero, List.set_cons_succ]
              refine takeWE (i := 8) (d := (some 103)) (v := ?_) rfl rfl (by kernel_rfl) (by kernel_rfl) (by kernel_rfl) (by kernel_rfl) (by kernel_rfl) (fun _ _ _ h => h) (by rfl) ?_ (by assumption) ?_
              rotate_left
              · intro w' hSw; (try dsimp only at hSw); go_simp; try with_reducible rfl
              try simp only [Act.put, List.setIfInBounds_toArray, List.set_cons_zero, List.set_cons_succ]
              refine takeWE (i := 9) (d := (some 104)) (v := ?_) rfl rfl (by kernel_rfl) (by kernel_rfl) (by kernel_rfl) (by kernel_rfl) (by kernel_rfl) (fun _ _ _ h => h) (by rfl) ?_ (by assumption) ?_
              rotate_left
              · intro w' hSw; (try dsimp only at hSw); go_simp; try with_reducible rfl
              try simp only [Act.put, List.setIfInBounds_toArray, List.set_cons_zero, List.set_cons_succ]
              refine takeWE (i := 10) (d := (some 105)) (v := ?_) rfl rfl (by kernel_rfl) (by kernel_rfl) (by kernel_rfl) (by kernel_rfl) (by kernel_rfl) (fun _ _ _ h => h) (by rfl) ?_ (by assumption) ?_
              rotate_left
              · intro w' hSw; (try dsimp only at hSw); go_simp; try with_reducible rfl
              try simp only [Act.put, List.setIfInBounds_toArray, List.set_cons_zero, List.set_cons_succ]
              refine takeWE (i := 11) (d := (some 106)) (v := ?_) rfl rfl (by kernel_rfl) (by kernel_rfl) (by kernel_rfl) (by kernel_rfl) (by kernel_rfl) (fun _ _ _ h => h) (by rfl) ?_ (by assumption) ?_
              rotate_left
              · intro w' hSw; (try dsimp only at hSw); go_simp; try with_reducible rfl
              try simp only [Act.put, List.setIfInBounds_toArray, List.set_cons_zero, List.set_cons_succ]
              refine takeWE (i := 12) (d := (some 107)) (v := ?_) rfl rfl (by kernel_rfl) (by kernel_rfl) (by kernel_rfl) (by kernel_rfl) (by kernel_rfl) (fun _ _ _ h => h) (by rfl) ?_ (by assumption) ?_
              rotate_left
              · intro w' hSw; (try dsimp only at hSw); go_simp; try with_reducible rfl
              try simp only [Act.put, List.setIfInBounds_toArray, List.set_cons_zero, List.set_cons_succ]
              refine takeWE (i := 13) (d := (some 108)) (v := ?_) rfl rfl (by kernel_rfl) (by kernel_rfl) (by kernel_rfl) (by kernel_rfl) (by kernel_rfl) (fun _ _ _ h => h) (by rfl) ?_ (by assumption) ?_
              rotate_left
              · intro w' hSw; (try dsimp only at hSw); go_simp; try with_reducible rfl
              try simp only [Act.put, List.setIfInBounds_toArray, List.set_cons_zero, List.set_cons_succ]
              refine takeWE (i := 14) (d := (some 109)) (v := ?_) rfl rfl (by kernel_rfl) (by kernel_rfl) (by kernel_rfl) (by kernel_rfl) (by kernel_rfl) (fun _ _ _ h => h) (by rfl) ?_ (by assumption) ?_
              rotate_left
              · intro w' hSw; (try dsimp only at hSw); go_simp; try with_reducible rfl
              try simp only [Act.put, List.setIfInBounds_toArray, List.set_cons_zero, List.set_cons_succ]
              refine wpE_ready (rs := [7]) (by kernel_rfl) (by simp) ?_
              refine AllE.cons rfl (fun K hK => ?_) (AllE.nil)
              go_simp
              go_at_call 18
              (with_reducible refine (C1.out _ HB0.out).mono ?_)
              rintro e v1 ⟨rfl, hB, hS⟩
              have HB1 := Lib.hid hB
              have HT1 := Lib.hid (hS _ _ _ (by decide) (by decide) (by decide) HT0.out)
              clear hB hS
              go_wp2_with (fail)
              refine hK.out _ _ ?_ (fun hHeld => ?_)
              · exact KS.out _ HT1.out
              clear hK K
              try simp only [Act.put, List.setIfInBounds_toArray, List.set_cons_zero, List.set_cons_succ]
              refine wpE_ready (rs := [15]) (by kernel_rfl) (by simp) ?_
              refine AllE.cons rfl (fun K hK => ?_) (AllE.nil)
              go_simp
              go_at_call 21
              (with_reducible refine (C2.out _ HB1.out).mono ?_)
              rintro e v2 ⟨rfl, hB, hS⟩
              have HB2 := Lib.hid hB
              have HT2 := Lib.hid (hS _ _ _ (by decide) (by decide) (by decide) HT1.out)
              clear hB hS
              go_wp2_with (fail)
              refine hK.out _ _ ?_ (fun hHeld => ?_)
              · exact KS.out _ HT2.out
              clear hK K
              try simp only [Act.put, List.setIfInBounds_toArray, List.set_cons_zero, List.set_cons_succ]
              refine takeWE (i := 16) (d := (some 111)) (v := ?_) rfl rfl (by kernel_rfl) (by kernel_rfl) (by kernel_rfl) (by kernel_rfl) (by kernel_rfl) (fun _ _ _ h => h) (by rfl) ?_ (by assumption) ?_
              rotate_left
              · intro w' hSw; (try dsimp only at hSw); go_simp; try with_reducible rfl
              try simp only [Act.put, List.setIfInBounds_toArray, List.set_cons_zero, List.set_cons_succ]
              refine wpE_ready (rs := [17]) (by kernel_rfl) (by simp) ?_
              refine AllE.last rfl (by kernel_rfl) (fun K hK => ?_)
              go_simp
              go_wp2_with (fail)
              refine hK.out _ _ ?_
              clear hK K hHeld
              go_wp2_with (fail)
              go_meet
              exact ⟨rfl, l', nx, HI2.out, HB2.out, HT2.out⟩
            · by_cases z4 : kd = 4
              · subst kd
                obtain ⟨r1, HR1⟩ : ∃ z, Hid (((l.length : Int) - ((delAll l (reach3 id mm)).length : Int)) = z) := ⟨_, rfl⟩
                obtain ⟨l', HL⟩ : ∃ z, Hid (delAll l (reach3 id mm) = z) := ⟨_, rfl⟩
                have HI2 : Hid (LInv l' nx (k + 1)) := by rw [← HL.out]; exact HI.out.sub (delAll_sub _ _)
                have C1 := Lib.hid (fun w' (h : Bo w gl b gx l nx l nx w') g (hg : At w' g 3 #[.int .i64 id, .int .i64 mm, .int .i64 id]) => bClose h hg hwf1 hwf3 HI.out.len)
                have C2 := Lib.hid (fun w' (h : Bo w gl b gx l' nx l nx w') g (hg : At w' g 3 #[.int .i64 id, .int .i64 mm, .int .i64 id]) => rClose h hg HI.out.nd HI.out.len)
                rw [HR1.out, HL.out] at C1 C2
                have x0 := HT.out.cell 0
                go_wp2_with (fail)
                clear x0
                have KS : Hid (∀ w', At w' g6 50 #[.int .i64 4, .int .i64 id, .int .i64 nn, .int .i64 mm, .int .i64 sm, .int .i64 sc] → w'.cell? ⟨g6, 1, none⟩ = some (.int .i64 id) ∧ w'.cell? ⟨g6, 3, none⟩ = some (.int .i64 mm)) := fun w' h => ⟨h.cell 1, h.cell 3⟩
                refine wp_regionE 19 (fun w' => w'.cell? ⟨g6, 1, none⟩ = some (.int .i64 id) ∧ w'.cell? ⟨g6, 3, none⟩ = some (.int .i64 mm)) (by kernel_rfl) ?_ (fun hHeld => ?_)
                · exact KS.out _ (HT.out.keep ((Chg.refl [] ws).drew) (by simp))
                have HB0 := Lib.hid (HB.out.quiet ((Chg.refl [] ws).drew))
                have HT0 := Lib.hid (HT.out.keep ((Chg.refl [] ws).drew) (by simp))
                generalize ws.drew = v0 at *
                refine takeWE (i := 0) (d := (some 114)) (v := ?_) rfl rfl (by kernel_rfl) (by kernel_rfl) (by kernel_rfl) (by kernel_rfl) (by kernel_rfl) (fun _ _ _ h => h) (by rfl) ?_ (by assumption) ?_
                rotate_left
                · intro w' hSw; (try dsimp only at hSw); go_simp; try with_reducible rfl
                try simp only [Act.put, List.setIfInBounds_toArray, List.set_cons_zero, List.set_cons_succ]
                refine takeWE (i := 1) (d := (some 115)) (v := ?_) rfl rfl (by kernel_rfl) (by kernel_rfl) (by kernel_rfl) (by kernel_rfl) (by kernel_rfl) (fun _ _ _ h => h) (by rfl) ?_ (by assumption) ?_
                rotate_left
                · intro w' hSw; (try dsimp only at hSw); go_simp; try with_reducible rfl
                try simp only [Act.put, List.setIfInBounds_toArray, List.set_cons_zero, List.set_cons_succ]
                refine takeWE (i := 2) (d := (some 116)) (v := ?_) rfl rfl (by kernel_rfl) (by kernel_rfl) (by kernel_rfl) (by kernel_rfl) (by kernel_rfl) (fun _ _ _ h => h) (by rfl) ?_ (by assumption) ?_
                rotate_left
                · intro w' hSw; (try dsimp only at hSw); go_simp; try with_reducible rfl
                try simp only [Act.put, List.setIfInBounds_toArray, List.set_cons_zero, List.set_cons_succ]
                refine takeWE (i := 3) (d := (some 117)) (v := ?_) rfl rfl (by kernel_rfl) (by kernel_rfl) (by kernel_rfl) (by kernel_rfl) (by kernel_rfl) (fun _ _ _ h => h) (by rfl) ?_ (by assumption) ?_
                rotate_left
                · intro w' hSw; (try dsimp only at hSw); go_simp; try with_reducible rfl
                try simp only [Act.put, List.setIfInBounds_toArray, List.set_cons_zero, List.set_cons_succ]
                refine takeWE (i := 4) (d := (some 118)) (v := ?_) rfl rfl (by kernel_rfl) (by kernel_rfl) (by kernel_rfl) (by kernel_rfl) (by kernel_rfl) (fun _ _ _ h => h) (by rfl) ?_ (by assumption) ?_
                rotate_left
                · intro w' hSw; (try dsimp only at hSw); go_simp; try with_reducible rfl
                try simp only [Act.put, List.setIfInBounds_toArray, List.set_cons_zero, List.set_cons_succ]
                refine takeWE (i := 5) (d := (some 119)) (v := ?_) rfl rfl (by kernel_rfl) (by kernel_rfl) (by kernel_rfl) (by kernel_rfl) (by kernel_rfl) (fun _ _ _ h => h) (by rfl) ?_ (by assumption) ?_
                rotate_left
                · intro w' hSw; (try dsimp only at hSw); go_simp; try with_reducible rfl
                try simp only [Act.put, List.setIfInBounds_toArray, List.set_cons_zero, List.set_cons_succ]
                refine takeWE (i := 6) (d := (some 120)) (v := ?_) rfl rfl (by kernel_rfl) (by kernel_rfl) (by kernel_rfl) (by kernel_rfl) (by kernel_rfl) (fun _ _ _ h => h) (by rfl) ?_ (by assumption) ?_
                rotate_left
                · intro w' hSw; (try dsimp only at hSw); go_simp; try with_reducible rfl
                try simp only [Act.put, List.setIfInBounds_toArray, List.set_cons_zero, List.set_cons_succ]
                refine takeWE (i := 9) (d := (some 123)) (v := ?_) rfl rfl (by kernel_rfl) (by kernel_rfl) (by kernel_rfl) (by kernel_rfl) (by kernel_rfl) (fun _ _ _ h => h) (by rfl) ?_ (by assumption) ?_
                rotate_left
                · intro w' hSw; (try dsimp only at hSw); go_simp; try with_reducible rfl
                try simp only [Act.put, List.setIfInBounds_toArray, List.set_cons_zero, List.set_cons_succ]
                refine takeWE (i := 10) (d := (some 124)) (v := ?_) rfl rfl (by kernel_rfl) (by kernel_rfl) (by kernel_rfl) (by kernel_rfl) (by kernel_rfl) (fun _ _ _ h => h) (by rfl) ?_ (by assumption) ?_
                rotate_left
                · intro w' hSw; (try dsimp only at hSw); go_simp; try with_reducible rfl
                try simp only [Act.put, List.setIfInBounds_toArray, List.set_cons_zero, List.set_cons_succ]
                refine takeWE (i := 11) (d := (some 125)) (v := ?_) rfl rfl (by kernel_rfl) (by kernel_rfl) (by kernel_rfl) (by kernel_rfl) (by kernel_rfl) (fun _ _ _ h => h) (by rfl) ?_ (by assumption) ?_
                rotate_left
                · intro w' hSw; (try dsimp only at hSw); go_simp; try with_reducible rfl
                try simp only [Act.put, List.setIfInBounds_toArray, List.set_cons_zero, List.set_cons_succ]
                refine takeWE (i := 12) (d := (some 126)) (v := ?_) rfl rfl (by kernel_rfl) (by kernel_rfl) (by kernel_rfl) (by kernel_rfl) (by kernel_rfl) (fun _ _ _ h => h) (by rfl) ?_ (by assumption) ?_
                rotate_left
                · intro w' hSw; (try dsimp only at hSw); go_simp; try with_reducible rfl
                try simp only [Act.put, List.setIfInBounds_toArray, List.set_cons_zero, List.set_cons_succ]
                refine takeWE (i := 13) (d := (some 127)) (v := ?_) rfl rfl (by kernel_rfl) (by kernel_rfl) (by kernel_rfl) (by kernel_rfl) (by kernel_rfl) (fun _ _ _ h => h) (by rfl) ?_ (by assumption) ?_
                rotate_left
                · intro w' hSw; (try dsimp only at hSw); go_simp; try with_reducible rfl
                try simp only [Act.put, List.setIfInBounds_toArray, List.set_cons_zero, List.set_cons_succ]
                refine takeWE (i := 14) (d := (some 128)) (v := ?_) rfl rfl (by kernel_rfl) (by kernel_rfl) (by kernel_rfl) (by kernel_rfl) (by kernel_rfl) (fun _ _ _ h => h) (by rfl) ?_ (by assumption) ?_
                rotate_left
                · intro w' hSw; (try dsimp only at hSw); go_simp; try with_reducible rfl
                try simp only [Act.put, List.setIfInBounds_toArray, List.set_cons_zero, List.set_cons_succ]
                refine takeWE (i := 15) (d := (some 129)) (v := ?_) rfl rfl (by kernel_rfl) (by kernel_rfl) (by kernel_rfl) (by kernel_rfl) (by kernel_rfl) (fun _ _ _ h => h) (by rfl) ?_ (by assumption) ?_
                rotate_left
                · intro w' hSw; (try dsimp only at hSw); go_simp; try with_reducible rfl
                try simp only [Act.put, List.setIfInBounds_toArray, List.set_cons_zero, List.set_cons_succ]
                refine wpE_ready (rs := [7, 16]) (by kernel_rfl) (by simp) ?_
                refine AllE.cons rfl (fun K hK => ?_) (AllE.cons rfl (fun K hK => ?_) (AllE.nil))
                · go_simp
                  go_wp2_with (fail)
                  have HB1 := Lib.hid (HB0.out.quiet ((Chg.refl [] v0).alloc (.cells #[.int .i64 id, .int .i64 mm, .int .i64 id] 3)))
                  have HT1 := Lib.hid (HT0.out.al (.cells #[.int .i64 id, .int .i64 mm, .int .i64 id] 3))
                  have HI1_1 := Lib.hid (At.new v0 3 #[.int .i64 id, .int .i64 mm, .int .i64 id])
                  generalize v0.alloc (.cells #[.int .i64 id, .int .i64 mm, .int .i64 id] 3) = v1 at *
                  refine hK.out _ _ ?_ (fun hHeld => ?_)
                  · exact KS.out _ HT1.out
                  clear hK K
                  try simp only [Act.put, List.setIfInBounds_toArray, List.set_cons_zero, List.set_cons_succ]
                  refine wpE_ready (rs := [8, 16]) (by kernel_rfl) (by simp) ?_
                  refine AllE.cons rfl (fun K hK => ?_) (AllE.cons rfl (fun K hK => ?_) (AllE.nil))
                  · go_simp
                    go_at_call 11
                    (with_reducible refine (C1.out _ HB1.out _ HI1_1.out).mono ?_)
                    rintro e v2 ⟨rfl, hB, hS⟩
                    have HB2 := Lib.hid hB
                    have HT2 := Lib.hid (hS _ _ _ (by decide) (by decide) (by decide) HT1.out)
                    have HI1_2 := Lib.hid (hS _ _ _ (by decide) (by decide) (by decide) HI1_1.out)
                    clear hB hS
                    go_wp2_with (fail)
                    refine hK.out _ _ ?_ (fun hHeld => ?_)
                    · exact KS.out _ HT2.out
                    clear hK K
                    try simp only [Act.put, List.setIfInBounds_toArray, List.set_cons_zero, List.set_cons_succ]
                    refine wpE_ready (rs := [16]) (by kernel_rfl) (by simp) ?_
                    refine AllE.cons rfl (fun K hK => ?_) (AllE.nil)
                    go_simp
                    go_wp2_with (fail)
                    have HB3 := Lib.hid (HB2.out.quiet ((Chg.refl [] v2).alloc (.cells #[.int .i64 id, .int .i64 mm, .int .i64 id] 3)))
                    have HT3 := Lib.hid (HT2.out.al (.cells #[.int .i64 id, .int .i64 mm, .int .i64 id] 3))
                    have HI2_3 := Lib.hid (At.new v2 3 #[.int .i64 id, .int .i64 mm, .int .i64 id])
                    have HI1_3 := Lib.hid (HI1_2.out.al (.cells #[.int .i64 id, .int .i64 mm, .int .i64 id] 3))
                    generalize v2.alloc (.cells #[.int .i64 id, .int .i64 mm, .int .i64 id] 3) = v3 at *
                    refine hK.out _ _ ?_ (fun hHeld => ?_)
                    · exact KS.out _ HT3.out
                    clear hK K
                    try simp only [Act.put, List.setIfInBounds_toArray, List.set_cons_zero, List.set_cons_succ]
                    refine wpE_ready (rs := [17]) (by kernel_rfl) (by simp) ?_
                    refine AllE.cons rfl (fun K hK => ?_) (AllE.nil)
                    go_simp
                    go_at_call 22
                    (with_reducible refine (C2.out _ HB3.out _ HI2_3.out).mono ?_)
                    rintro e v4 ⟨rfl, hB, hS⟩
                    have HB4 := Lib.hid hB
                    have HT4 := Lib.hid (hS _ _ _ (by decide) (by decide) (by decide) HT3.out)
                    have HI1_4 := Lib.hid (hS _ _ _ (by decide) (by decide) (by decide) HI1_3.out)
                    have HI2_4 := Lib.hid (hS _ _ _ (by decide) (by decide) (by decide) HI2_3.out)
                    clear hB hS
                    go_wp2_with (fail)
                    refine hK.out _ _ ?_ (fun hHeld => ?_)
                    · exact KS.out _ HT4.out
                    clear hK K
                    try simp only [Act.put, List.setIfInBounds_toArray, List.set_cons_zero, List.set_cons_succ]
                    refine takeWE (i := 18) (d := (some 132)) (v := ?_) rfl rfl (by kernel_rfl) (by kernel_rfl) (by kernel_rfl) (by kernel_rfl) (by kernel_rfl) (fun _ _ _ h => h) (by rfl) ?_ (by assumption) ?_
                    rotate_left
                    · intro w' hSw; (try dsimp only at hSw); go_simp; try with_reducible rfl
                    try simp only [Act.put, List.setIfInBounds_toArray, List.set_cons_zero, List.set_cons_succ]
                    refine wpE_ready (rs := [19]) (by kernel_rfl) (by simp) ?_
                    refine AllE.last rfl (by kernel_rfl) (fun K hK => ?_)
                    go_simp
                    go_wp2_with (fail)
                    refine hK.out _ _ ?_
                    clear hK K hHeld
                    go_wp2_with (fail)
                    go_meet
                    exact ⟨rfl, l', nx, HI2.out, HB4.out, HT4.out⟩
                  · go_simp
                    go_wp2_with (fail)
                    have HB2 := Lib.hid (HB1.out.quiet ((Chg.refl [] v1).alloc (.cells #[.int .i64 id, .int .i64 mm, .int .i64 id] 3)))
                    have HT2 := Lib.hid (HT1.out.al (.cells #[.int .i64 id, .int .i64 mm, .int .i64 id] 3))
                    have HI2_2 := Lib.hid (At.new v1 3 #[.int .i64 id, .int .i64 mm, .int .i64 id])
                    have HI1_2 := Lib.hid (HI1_1.out.al (.cells #[.int .i64 id, .int .i64 mm, .int .i64 id] 3))
                    generalize v1.alloc (.cells #[.int .i64 id, .int .i64 mm, .int .i64 id] 3) = v2 at *
                    refine hK.out _ _ ?_ (fun hHeld => ?_)
                    · exact KS.out _ HT2.out
                    clear hK K
                    try simp only [Act.put, List.setIfInBounds_toArray, List.set_cons_zero, List.set_cons_succ]
                    refine wpE_ready (rs := [8]) (by kernel_rfl) (by simp) ?_
                    refine AllE.cons rfl (fun K hK => ?_) (AllE.nil)
                    go_simp
                    go_at_call 11
                    (with_reducible refine (C1.out _ HB2.out _ HI1_2.out).mono ?_)
                    rintro e v3 ⟨rfl, hB, hS⟩
                    have HB3 := Lib.hid hB
                    have HT3 := Lib.hid (hS _ _ _ (by decide) (by decide) (by decide) HT2.out)
                    have HI1_3 := Lib.hid (hS _ _ _ (by decide) (by decide) (by decide) HI1_2.out)
                    have HI2_3 := Lib.hid (hS _ _ _ (by decide) (by decide) (by decide) HI2_2.out)
                    clear hB hS
                    go_wp2_with (fail)
                    refine hK.out _ _ ?_ (fun hHeld => ?_)
                    · exact KS.out _ HT3.out
                    clear hK K
                    try simp only [Act.put, List.setIfInBounds_toArray, List.set_cons_zero, List.set_cons_succ]
                    refine wpE_ready (rs := [17]) (by kernel_rfl) (by simp) ?_
                    refine AllE.cons rfl (fun K hK => ?_) (AllE.nil)
                    go_simp
                    go_at_call 22
                    (with_reducible refine (C2.out _ HB3.out _ HI2_3.out).mono ?_)
                    rintro e v4 ⟨rfl, hB, hS⟩
                    have HB4 := Lib.hid hB
                    have HT4 := Lib.hid (hS _ _ _ (by decide) (by decide) (by decide) HT3.out)
                    have HI1_4 := Lib.hid (hS _ _ _ (by decide) (by decide) (by decide) HI1_3.out)
                    have HI2_4 := Lib.hid (hS _ _ _ (by decide) (by decide) (by decide) HI2_3.out)
                    clear hB hS
                    go_wp2_with (fail)
                    refine hK.out _ _ ?_ (fun hHeld => ?_)
                    · exact KS.out _ HT4.out
                    clear hK K
                    try simp only [Act.put, List.setIfInBounds_toArray, List.set_cons_zero, List.set_cons_succ]
                    refine takeWE (i := 18) (d := (some 132)) (v := ?_) rfl rfl (by kernel_rfl) (by kernel_rfl) (by kernel_rfl) (by kernel_rfl) (by kernel_rfl) (fun _ _ _ h => h) (by rfl) ?_ (by assumption) ?_
                    rotate_left
                    · intro w' hSw; (try dsimp only at hSw); go_simp; try with_reducible rfl
                    try simp only [Act.put, List.setIfInBounds_toArray, List.set_cons_zero, List.set_cons_succ]
                    refine wpE_ready (rs := [19]) (by kernel_rfl) (by simp) ?_
                    refine AllE.last rfl (by kernel_rfl) (fun K hK => ?_)
                    go_simp
                    go_wp2_with (fail)
                    refine hK.out _ _ ?_
                    clear hK K hHeld
                    go_wp2_with (fail)
                    go_meet
                    exact ⟨rfl, l', nx, HI2.out, HB4.out, HT4.out⟩
                · go_simp
                  go_wp2_with (fail)
                  have HB1 := Lib.hid (HB0.out.quiet ((Chg.refl [] v0).alloc (.cells #[.int .i64 id, .int .i64 mm, .int .i64 id] 3)))
                  have HT1 := Lib.hid (HT0.out.al (.cells #[.int .i64 id, .int .i64 mm, .int .i64 id] 3))
                  have HI2_1 := Lib.hid (At.new v0 3 #[.int .i64 id, .int .i64 mm, .int .i64 id])
                  generalize v0.alloc (.cells #[.int .i64 id, .int .i64 mm, .int .i64 id] 3) = v1 at *
                  refine hK.out _ _ ?_ (fun hHeld => ?_)
                  · exact KS.out _ HT1.out
                  clear hK K
                  try simp only [Act.put, List.setIfInBounds_toArray, List.set_cons_zero, List.set_cons_succ]
                  refine wpE_ready (rs := [7]) (by kernel_rfl) (by simp) ?_
                  refine AllE.cons rfl (fun K hK => ?_) (AllE.nil)
                  go_simp
                  go_wp2_with (fail)
                  have HB2 := Lib.hid (HB1.out.quiet ((Chg.refl [] v1).alloc (.cells #[.int .i64 id, .int .i64 mm, .int .i64 id] 3)))
                  have HT2 := Lib.hid (HT1.out.al (.cells #[.int .i64 id, .int .i64 mm, .int .i64 id] 3))
                  have HI1_2 := Lib.hid (At.new v1 3 #[.int .i64 id, .int .i64 mm, .int .i64 id])
                  have HI2_2 := Lib.hid (HI2_1.out.al (.cells #[.int .i64 id, .int .i64 mm, .int .i64 id] 3))
                  generalize v1.alloc (.cells #[.int .i64 id, .int .i64 mm, .int .i64 id] 3) = v2 at *
                  refine hK.out _ _ ?_ (fun hHeld => ?_)
                  · exact KS.out _ HT2.out
                  clear hK K
                  try simp only [Act.put, List.setIfInBounds_toArray, List.set_cons_zero, List.set_cons_succ]
                  refine wpE_ready (rs := [8]) (by kernel_rfl) (by simp) ?_
                  refine AllE.cons rfl (fun K hK => ?_) (AllE.nil)
                  go_simp
                  go_at_call 11
                  (with_reducible refine (C1.out _ HB2.out _ HI1_2.out).mono ?_)
                  rintro e v3 ⟨rfl, hB, hS⟩
                  have HB3 := Lib.hid hB
                  have HT3 := Lib.hid (hS _ _ _ (by decide) (by decide) (by decide) HT2.out)
                  have HI1_3 := Lib.hid (hS _ _ _ (by decide) (by decide) (by decide) HI1_2.out)
                  have HI2_3 := Lib.hid (hS _ _ _ (by decide) (by decide) (by decide) HI2_2.out)
                  clear hB hS
                  go_wp2_with (fail)
                  refine hK.out _ _ ?_ (fun hHeld => ?_)
                  · exact KS.out _ HT3.out
                  clear hK K
                  try simp only [Act.put, List.setIfInBounds_toArray, List.set_cons_zero, List.set_cons_succ]
                  refine wpE_ready (rs := [17]) (by kernel_rfl) (by simp) ?_
                  refine AllE.cons rfl (fun K hK => ?_) (AllE.nil)
                  go_simp
                  go_at_call 22
                  (with_reducible refine (C2.out _ HB3.out _ HI2_3.out).mono ?_)
                  rintro e v4 ⟨rfl, hB, hS⟩
                  have HB4 := Lib.hid hB
                  have HT4 := Lib.hid (hS _ _ _ (by decide) (by decide) (by decide) HT3.out)
                  have HI1_4 := Lib.hid (hS _ _ _ (by decide) (by decide) (by decide) HI1_3.out)
                  have HI2_4 := Lib.hid (hS _ _ _ (by decide) (by decide) (by decide) HI2_3.out)
                  clear hB hS
                  go_wp2_with (fail)
                  refine hK.out _ _ ?_ (fun hHeld => ?_)
                  · exact KS.out _ HT4.out
                  clear hK K
                  try simp only [Act.put, List.setIfInBounds_toArray, List.set_cons_zero, List.set_cons_succ]
                  refine takeWE (i := 18) (d := (some 132)) (v := ?_) rfl rfl (by kernel_rfl) (by kernel_rfl) (by kernel_rfl) (by kernel_rfl) (by kernel_rfl) (fun _ _ _ h => h) (by rfl) ?_ (by assumption) ?_
                  rotate_left
                  · intro w' hSw; (try dsimp only at hSw); go_simp; try with_reducible rfl
                  try simp only [Act.put, List.setIfInBounds_toArray, List.set_cons_zero, List.set_cons_succ]
                  refine wpE_ready (rs := [19]) (by kernel_rfl) (by simp) ?_
                  refine AllE.last rfl (by kernel_rfl) (fun K hK => ?_)
                  go_simp
                  go_wp2_with (fail)
                  refine hK.out _ _ ?_
                  clear hK K hHeld
                  go_wp2_with (fail)
                  go_meet
                  exact ⟨rfl, l', nx, HI2.out, HB4.out, HT4.out⟩
              · by_cases z5 : kd = 5
                · subst kd
                  obtain ⟨r1, HR1⟩ : ∃ z, Hid (((l.length : Int) - ((expL l nn).length : Int)) = z) := ⟨_, rfl⟩
                  obtain ⟨l', HL⟩ : ∃ z, Hid (expL l nn = z) := ⟨_, rfl⟩
                  have HI2 : Hid (LInv l' nx (k + 1)) := by rw [← HL.out]; exact HI.out.sub List.filter_sublist
                  have C1 := Lib.hid (fun w' (h : Bo w gl b gx l nx l nx w') => bExpire h nn HI.out.len)
                  have C2 := Lib.hid (fun w' (h : Bo w gl b gx l' nx l nx w') => rExpire h nn HI.out.len)
                  rw [HR1.out, HL.out] at C1 C2
                  have x0 := HT.out.cell 0
                  go_wp2_with (fail)
                  clear x0
                  have KS : Hid (∀ w', At w' g6 50 #[.int .i64 5, .int .i64 id, .int .i64 nn, .int .i64 mm, .int .i64 sm, .int .i64 sc] → w'.cell? ⟨g6, 2, none⟩ = some (.int .i64 nn)) := fun w' h => h.cell 2
                  refine wp_regionE 9 (fun w' => w'.cell? ⟨g6, 2, none⟩ = some (.int .i64 nn)) (by kernel_rfl) ?_ (fun hHeld => ?_)
                  · exact KS.out _ (HT.out.keep ((Chg.refl [] ws).drew) (by simp))
                  have HB0 := Lib.hid (HB.out.quiet ((Chg.refl [] ws).drew))
                  have HT0 := Lib.hid (HT.out.keep ((Chg.refl [] ws).drew) (by simp))
                  generalize ws.drew = v0 at *
                  refine takeWE (i := 0) (d := (some 135)) (v := ?_) rfl rfl (by kernel_rfl) (by kernel_rfl) (by kernel_rfl) (by kernel_rfl) (by kernel_rfl) (fun _ _ _ h => h) (by rfl) ?_ (by assumption) ?_
                  rotate_left
                  · intro w' hSw; (try dsimp only at hSw); go_simp; try with_reducible rfl
                  try simp only [Act.put, List.setIfInBounds_toArray, List.set_cons_zero, List.set_cons_succ]
                  refine takeWE (i := 1) (d := (some 136)) (v := ?_) rfl rfl (by kernel_rfl) (by kernel_rfl) (by kernel_rfl) (by kernel_rfl) (by kernel_rfl) (fun _ _ _ h => h) (by rfl) ?_ (by assumption) ?_
                  rotate_left
                  · intro w' hSw; (try dsimp only at hSw); go_simp; try with_reducible rfl
                  try simp only [Act.put, List.setIfInBounds_toArray, List.set_cons_zero, List.set_cons_succ]
                  refine takeWE (i := 2) (d := (some 137)) (v := ?_) rfl rfl (by kernel_rfl) (by kernel_rfl) (by kernel_rfl) (by kernel_rfl) (by kernel_rfl) (fun _ _ _ h => h) (by rfl) ?_ (by assumption) ?_
                  rotate_left
                  · intro w' hSw; (try dsimp only at hSw); go_simp; try with_reducible rfl
                  try simp only [Act.put, List.setIfInBounds_toArray, List.set_cons_zero, List.set_cons_succ]
                  refine takeWE (i := 4) (d := (some 139)) (v := ?_) rfl rfl (by kernel_rfl) (by kernel_rfl) (by kernel_rfl) (by kernel_rfl) (by kernel_rfl) (fun _ _ _ h => h) (by rfl) ?_ (by assumption) ?_
                  rotate_left
                  · intro w' hSw; (try dsimp only at hSw); go_simp; try with_reducible rfl
                  try simp only [Act.put, List.setIfInBounds_toArray, List.set_cons_zero, List.set_cons_succ]
                  refine takeWE (i := 5) (d := (some 140)) (v := ?_) rfl rfl (by kernel_rfl) (by kernel_rfl) (by kernel_rfl) (by kernel_rfl) (by kernel_rfl) (fun _ _ _ h => h) (by rfl) ?_ (by assumption) ?_
                  rotate_left
                  · intro w' hSw; (try dsimp only at hSw); go_simp; try with_reducible rfl
                  try simp only [Act.put, List.setIfInBounds_toArray, List.set_cons_zero, List.set_cons_succ]
                  refine takeWE (i := 6) (d := (some 141)) (v := ?_) rfl rfl (by kernel_rfl) (by kernel_rfl) (by kernel_rfl) (by kernel_rfl) (by kernel_rfl) (fun _ _ _ h => h) (by rfl) ?_ (by assumption) ?_
                  rotate_left
                  · intro w' hSw; (try dsimp only at hSw); go_simp; try with_reducible rfl
                  try simp only [Act.put, List.setIfInBounds_toArray, List.set_cons_zero, List.set_cons_succ]
                  refine wpE_ready (rs := [3]) (by kernel_rfl) (by simp) ?_
                  refine AllE.cons rfl (fun K hK => ?_) (AllE.nil)
                  go_simp
                  go_at_call 16
                  (with_reducible refine (C1.out _ HB0.out).mono ?_)
                  rintro e v1 ⟨rfl, hB, hS⟩
                  have HB1 := Lib.hid hB
                  have HT1 := Lib.hid (hS _ _ _ (by decide) (by decide) (by decide) HT0.out)
                  clear hB hS
                  go_wp2_with (fail)
                  refine hK.out _ _ ?_ (fun hHeld => ?_)
                  · exact KS.out _ HT1.out
                  clear hK K
                  try simp only [Act.put, List.setIfInBounds_toArray, List.set_cons_zero, List.set_cons_succ]
                  refine wpE_ready (rs := [7]) (by kernel_rfl) (by simp) ?_
                  refine AllE.cons rfl (fun K hK => ?_) (AllE.nil)
                  go_simp
                  go_at_call 23
                  (with_reducible refine (C2.out _ HB1.out).mono ?_)
                  rintro e v2 ⟨rfl, hB, hS⟩
                  have HB2 := Lib.hid hB
                  have HT2 := Lib.hid (hS _ _ _ (by decide) (by decide) (by decide) HT1.out)
                  clear hB hS
                  go_wp2_with (fail)
                  refine hK.out _ _ ?_ (fun hHeld => ?_)
                  · exact KS.out _ HT2.out
                  clear hK K
                  try simp only [Act.put, List.setIfInBounds_toArray, List.set_cons_zero, List.set_cons_succ]
                  refine takeWE (i := 8) (d := (some 143)) (v := ?_) rfl rfl (by kernel_rfl) (by kernel_rfl) (by kernel_rfl) (by kernel_rfl) (by kernel_rfl) (fun _ _ _ h => h) (by rfl) ?_ (by assumption) ?_
                  rotate_left
                  · intro w' hSw; (try dsimp only at hSw); go_simp; try with_reducible rfl
                  try simp only [Act.put, List.setIfInBounds_toArray, List.set_cons_zero, List.set_cons_succ]
                  refine wpE_ready (rs := [9]) (by kernel_rfl) (by simp) ?_
                  refine AllE.last rfl (by kernel_rfl) (fun K hK => ?_)
                  go_simp
                  go_wp2_with (fail)
                  refine hK.out _ _ ?_
                  clear hK K hHeld
                  go_wp2_with (fail)
                  go_meet
                  exact ⟨rfl, l', nx, HI2.out, HB2.out, HT2.out⟩
                · have x0 := HT.out.cell 0
                  have y1 : (kd == 1) = false := beq_eq_false_iff_ne.2 z1
                  have y2 : (kd == 2) = false := beq_eq_false_iff_ne.2 z2
                  have y3 : (kd == 3) = false := beq_eq_false_iff_ne.2 z3
                  have y4 : (kd == 4) = false := beq_eq_false_iff_ne.2 z4
                  have y5 : (kd == 5) = false := beq_eq_false_iff_ne.2 z5
                  clear z1 z2 z3 z4 z5
                  go_wp2_with (fail)
                  go_meet
                  exact ⟨rfl, l, nx, HI.out.up, HB.out, HT.out⟩
      case rest =>
        clear HI HB c0 c1 c2 c3 c4 c5
        obtain ⟨rfl, l, nx, hI, hB, hT⟩ := hcut
        have HI := Lib.hid hI
        have HB := Lib.hid hB
        have HT := Lib.hid hT
        clear hI hB hT
        generalize wr.heap.size = g6 at *
        generalize wc = ws at *
        go_wp2_with (fail)
        have KS : Hid (∀ w', At w' g6 50 #[.int .i64 kd, .int .i64 id, .int .i64 nn, .int .i64 mm, .int .i64 sm, .int .i64 sc] → w'.cell? ⟨g6, 4, none⟩ = some (.int .i64 sm) ∧ w'.cell? ⟨g6, 5, none⟩ = some (.int .i64 sc)) := fun w' h => ⟨h.cell 4, h.cell 5⟩
        refine wp_regionE 19 (fun w' => w'.cell? ⟨g6, 4, none⟩ = some (.int .i64 sm) ∧ w'.cell? ⟨g6, 5, none⟩ = some (.int .i64 sc)) (by kernel_rfl) ?_ (fun hHeld => ?_)
        · exact KS.out _ (HT.out.keep ((Chg.refl [] ws).drew) (by simp))
        have HB0 := Lib.hid (HB.out.quiet ((Chg.refl [] ws).drew))
        have HT0 := Lib.hid (HT.out.keep ((Chg.refl [] ws).drew) (by simp))
        generalize ws.drew = v0 at *
        refine takeWE (i := 0) (d := (some 144)) (v := ?_) rfl rfl (by kernel_rfl) (by kernel_rfl) (by kernel_rfl) (by kernel_rfl) (by kernel_rfl) (fun _ _ _ h => h) (by rfl) ?_ (by assumption) ?_
        rotate_left
        · intro w' hSw; (try dsimp only at hSw); go_simp; try with_reducible rfl
        try simp only [Act.put, List.setIfInBounds_toArray, List.set_cons_zero, List.set_cons_succ]
        refine takeWE (i := 1) (d := (some 145)) (v := ?_) rfl rfl (by kernel_rfl) (by kernel_rfl) (by kernel_rfl) (by kernel_rfl) (by kernel_rfl) (fun _ _ _ h => h) (by rfl) ?_ (by assumption) ?_
        rotate_left
        · intro w' hSw; (try dsimp only at hSw); go_simp; try with_reducible rfl
        try simp only [Act.put, List.setIfInBounds_toArray, List.set_cons_zero, List.set_cons_succ]
        refine takeWE (i := 2) (d := (some 146)) (v := ?_) rfl rfl (by kernel_rfl) (by kernel_rfl) (by kernel_rfl) (by kernel_rfl) (by kernel_rfl) (fun _ _ _ h => h) (by rfl) ?_ (by assumption) ?_
        rotate_left
        · intro w' hSw; (try dsimp only at hSw); go_simp; try with_reducible rfl
        try simp only [Act.put, List.setIfInBounds_toArray, List.set_cons_zero, List.set_cons_succ]
        refine takeWE (i := 3) (d := (some 147)) (v := ?_) rfl rfl (by kernel_rfl) (by kernel_rfl) (by kernel_rfl) (by kernel_rfl) (by kernel_rfl) (fun _ _ _ h => h) (by rfl) ?_ (by assumption) ?_
        rotate_left
        · intro w' hSw; (try dsimp only at hSw); go_simp; try with_reducible rfl
        try simp only [Act.put, List.setIfInBounds_toArray, List.set_cons_zero, List.set_cons_succ]
        refine takeWE (i := 5) (d := (some 149)) (v := ?_) rfl rfl (by kernel_rfl) (by kernel_rfl) (by kernel_rfl) (by kernel_rfl) (by kernel_rfl) (fun _ _ _ h => h) (by rfl) ?_ (by assumption) ?_
        rotate_left
        · intro w' hSw; (try dsimp only at hSw); go_simp; try with_reducible rfl
        try simp only [Act.put, List.setIfInBounds_toArray, List.set_cons_zero, List.set_cons_succ]
        refine wpE_ready (rs := [4]) (by kernel_rfl) (by simp) ?_
        refine AllE.cons rfl (fun K hK => ?_) (AllE.nil)
        go_simp
        go_at_call 17
        (with_reducible refine (bLen HB0.out).mono ?_)
        rintro e v1 ⟨rfl, hcc⟩
        have HB1 := Lib.hid (HB0.out.quiet hcc)
        have HT1 := Lib.hid (HT0.out.keep hcc (by simp))
        clear hcc
        go_wp2_with (fail)
        refine hK.out _ _ ?_ (fun hHeld => ?_)
        · exact KS.out _ HT1.out
        clear hK K
        try simp only [Act.put, List.setIfInBounds_toArray, List.set_cons_zero, List.set_cons_succ]
        refine wpE_ready (rs := [6]) (by kernel_rfl) (by simp) ?_
        refine AllE.cons rfl (fun K hK => ?_) (AllE.nil)
        go_simp
        go_at_call 24
        (with_reducible refine (rLen HB1.out).mono ?_)
        rintro e v2 ⟨rfl, hcc⟩
        have HB2 := Lib.hid (HB1.out.quiet hcc)
        have HT2 := Lib.hid (HT1.out.keep hcc (by simp))
        clear hcc
        go_wp2_with (fail)
        refine hK.out _ _ ?_ (fun hHeld => ?_)
        · exact KS.out _ HT2.out
        clear hK K
        try simp only [Act.put, List.setIfInBounds_toArray, List.set_cons_zero, List.set_cons_succ]
        refine takeWE (i := 7) (d := (some 151)) (v := ?_) rfl rfl (by kernel_rfl) (by kernel_rfl) (by kernel_rfl) (by kernel_rfl) (by kernel_rfl) (fun _ _ _ h => h) (by rfl) ?_ (by assumption) ?_
        rotate_left
        · intro w' hSw; (try dsimp only at hSw); go_simp; try with_reducible rfl
        try simp only [Act.put, List.setIfInBounds_toArray, List.set_cons_zero, List.set_cons_succ]
        refine takeWE (i := 8) (d := (some 152)) (v := ?_) rfl rfl (by kernel_rfl) (by kernel_rfl) (by kernel_rfl) (by kernel_rfl) (by kernel_rfl) (fun _ _ _ h => h) (by rfl) ?_ (by assumption) ?_
        rotate_left
        · intro w' hSw; (try dsimp only at hSw); go_simp; try with_reducible rfl
        try simp only [Act.put, List.setIfInBounds_toArray, List.set_cons_zero, List.set_cons_succ]
        refine takeWE (i := 9) (d := (some 153)) (v := ?_) rfl rfl (by kernel_rfl) (by kernel_rfl) (by kernel_rfl) (by kernel_rfl) (by kernel_rfl) (fun _ _ _ h => h) (by rfl) ?_ (by assumption) ?_
        rotate_left
        · intro w' hSw; (try dsimp only at hSw); go_simp; try with_reducible rfl
        try simp only [Act.put, List.setIfInBounds_toArray, List.set_cons_zero, List.set_cons_succ]
        refine takeWE (i := 10) (d := (some 154)) (v := ?_) rfl rfl (by kernel_rfl) (by kernel_rfl) (by kernel_rfl) (by kernel_rfl) (by kernel_rfl) (fun _ _ _ h => h) (by rfl) ?_ (by assumption) ?_
        rotate_left
        · intro w' hSw; (try dsimp only at hSw); go_simp; try with_reducible rfl
        try simp only [Act.put, List.setIfInBounds_toArray, List.set_cons_zero, List.set_cons_succ]
        refine takeWE (i := 11) (d := (some 155)) (v := ?_) rfl rfl (by kernel_rfl) (by kernel_rfl) (by kernel_rfl) (by kernel_rfl) (by kernel_rfl) (fun _ _ _ h => h) (by rfl) ?_ (by assumption) ?_
        rotate_left
        · intro w' hSw; (try dsimp only at hSw); go_simp; try with_reducible rfl
        try simp only [Act.put, List.setIfInBounds_toArray, List.set_cons_zero, List.set_cons_succ]
        refine takeWE (i := 12) (d := (some 156)) (v := ?_) rfl rfl (by kernel_rfl) (by kernel_rfl) (by kernel_rfl) (by kernel_rfl) (by kernel_rfl) (fun _ _ _ h => h) (by rfl) ?_ (by assumption) ?_
        rotate_left
        · intro w' hSw; (try dsimp only at hSw); go_simp; try with_reducible rfl
        try simp only [Act.put, List.setIfInBounds_toArray, List.set_cons_zero, List.set_cons_succ]
        refine takeWE (i := 14) (d := (some 158)) (v := ?_) rfl rfl (by kernel_rfl) (by kernel_rfl) (by kernel_rfl) (by kernel_rfl) (by kernel_rfl) (fun _ _ _ h => h) (by rfl) ?_ (by assumption) ?_
        rotate_left
        · intro w' hSw; (try dsimp only at hSw); go_simp; try with_reducible rfl
        try simp only [Act.put, List.setIfInBounds_toArray, List.set_cons_zero, List.set_cons_succ]
        refine takeWE (i := 15) (d := (some 159)) (v := ?_) rfl rfl (by kernel_rfl) (by kernel_rfl) (by kernel_rfl) (by kernel_rfl) (by kernel_rfl) (fun _ _ _ h => h) (by rfl) ?_ (by assumption) ?_
        rotate_left
        · intro w' hSw; (try dsimp only at hSw); go_simp; try with_reducible rfl
        try simp only [Act.put, List.setIfInBounds_toArray, List.set_cons_zero, List.set_cons_succ]
        refine takeWE (i := 16) (d := (some 160)) (v := ?_) rfl rfl (by kernel_rfl) (by kernel_rfl) (by kernel_rfl) (by kernel_rfl) (by kernel_rfl) (fun _ _ _ h => h) (by rfl) ?_ (by assumption) ?_
        rotate_left
        · intro w' hSw; (try dsimp only at hSw); go_simp; try with_reducible rfl
        try simp only [Act.put, List.setIfInBounds_toArray, List.set_cons_zero, List.set_cons_succ]
        refine wpE_ready (rs := [13]) (by kernel_rfl) (by simp) ?_
        refine AllE.cons rfl (fun K hK => ?_) (AllE.nil)
        go_simp
        go_at_call 15
        (with_reducible refine (bFloor HB2.out sm sc).mono ?_)
        rintro e v3 ⟨⟨fm, fc⟩, rfl, hf, hcc⟩
        have HFl := Lib.hid hf
        clear hf
        have HB3 := Lib.hid (HB2.out.quiet hcc)
        have HT3 := Lib.hid (HT2.out.keep hcc (by simp))
        clear hcc
        go_wp2_with (fail)
        refine hK.out _ _ ?_ (fun hHeld => ?_)
        · exact KS.out _ HT3.out
        clear hK K
        try simp only [Act.put, List.setIfInBounds_toArray, List.set_cons_zero, List.set_cons_succ]
        refine wpE_ready (rs := [17]) (by kernel_rfl) (by simp) ?_
        refine AllE.cons rfl (fun K hK => ?_) (AllE.nil)
        go_simp
        go_at_call 25
        (with_reducible refine (rFloor HB3.out sm sc HI.out.len HFl.out).mono ?_)
        rintro e v4 ⟨rfl, hcc⟩
        have HB4 := Lib.hid (HB3.out.quiet hcc)
        have HT4 := Lib.hid (HT3.out.keep hcc (by simp))
        clear hcc
        go_wp2_with (fail)
        refine hK.out _ _ ?_ (fun hHeld => ?_)
        · exact KS.out _ HT4.out
        clear hK K
        try simp only [Act.put, List.setIfInBounds_toArray, List.set_cons_zero, List.set_cons_succ]
        refine takeWE (i := 18) (d := (some 162)) (v := ?_) rfl rfl (by kernel_rfl) (by kernel_rfl) (by kernel_rfl) (by kernel_rfl) (by kernel_rfl) (fun _ _ _ h => h) (by rfl) ?_ (by assumption) ?_
        rotate_left
        · intro w' hSw; (try dsimp only at hSw); go_simp; try with_reducible rfl
        try simp only [Act.put, List.setIfInBounds_toArray, List.set_cons_zero, List.set_cons_succ]
        refine wpE_ready (rs := [19]) (by kernel_rfl) (by simp) ?_
        refine AllE.last rfl (by kernel_rfl) (fun K hK => ?_)
        go_simp
        go_wp2_with (fail)
        refine hK.out _ _ ?_
        clear hK K hHeld
        go_wp2_with (fail)
        go_roundg (n - (k + 1))
        case rel => exact ⟨k + 1, l, nx, rfl, by omega, by omega, by go_num, HI.out, HB4.out⟩
        case measure => have := Hg.out; omega
    · by_cases hk3 : k < n
      · have h200 : ¬ ((k : Int) < 200) := by omega
        have hki : (k : Int) < (n : Int) := by omega
        clear hlt
        go_wp2_with (go_at_call 8; refine (knownLe_any _).mono ?_; rintro e w6 ⟨rfl, hch6⟩)
        go_ret
        exact ⟨rfl, HB.out.chg.trans hch6 (by simp)⟩
      · have hki : ¬ (k : Int) < (n : Int) := by omega
        clear hlt
        go_wp2_with (go_at_call 8; refine (knownLe_any _).mono ?_; rintro e w6 ⟨rfl, hch6⟩)
        go_ret
        exact ⟨rfl, HB.out.chg.trans hch6 (by simp)⟩
end Go.Proofs.Ytbijglnkohmafaa
