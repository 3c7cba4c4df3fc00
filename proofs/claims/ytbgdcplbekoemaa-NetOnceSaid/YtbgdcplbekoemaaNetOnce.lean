
/-
  NetOnce: the walk of the law.
-/
import Derived.Test.YtbgdcplbekoemaaNetSp
import Derived.Test.YtbgdcplbekoemaaNetFull
namespace Go.Proofs.Ytbgdcplbekoemaa
open Go.RowKit
set_option linter.unusedVariables false
attribute [local go_sem ↓] run_min2 run_max2

theorem same_yes (w : World) (A B : Option Addr) (n m c d : Nat) (xs : List UInt8) (hn : xs.length = n) (hm : xs.length = m) (hx : Rd w 1 A xs.length (cB xs)) (hy : Rd w 1 B xs.length (cB xs)) (hl : xs.length ≤ 140737488355328) :
    Calls Try.prog 20 #[.slice A n c, .slice B m d] w fun e w' => e = .returned (.bool true) ∧ Chg [] w w' := by
  refine (same_any w A B n m c d xs xs hn hm hx hy hl).mono ?_
  rintro e w' ⟨rfl, h⟩
  exact ⟨by simp, h⟩
theorem known_if {w : World} {P : Prop} (h : P) : P := h
theorem u8_of {a : Int} (h : (Lit.int .u8 a).wf = true) : ∃ b : UInt8, a = (b.toNat : Int) := by
  have h2 := bounds_u8 h
  exact ⟨UInt8.ofNat a.toNat, by rw [UInt8.toNat_ofNat', Nat.mod_eq_of_lt (by omega)]; omega⟩
set_option maxRecDepth 100000 in
set_option maxHeartbeats 6400000 in
theorem netOnce_law (w : World) (x : SlB) (hx : RdB w x ∧ x.bs.length ≤ x.c ∧ x.c ≤ maxLen ∧ x.bs.length ≤ 140737488351232 ∧ (x.A = none → x.c = 0)) (a : Int) (ha : (Lit.int .i64 a).wf = true) (b1 : Int) (hb1 : (Lit.int .u8 b1).wf = true) (b2 : Int) (hb2 : (Lit.int .u8 b2).wf = true) :
    Calls Try.prog 6 #[x.val, .int .i64 a, .int .u8 b1, .int .u8 b2] w fun e w' => e = .returned (.bool true) ∧ Chg [] w w' := by
  obtain ⟨i0, hi, hz0, hz1, hz2⟩ := info_parts info_u8n
  obtain ⟨A, c, bs⟩ := x
  obtain ⟨rx, hxc, hxm, hxl, hnil⟩ := hx
  simp only at hxc hxm hxl hnil
  have RX : Hid (Rd w 1 A bs.length (cB bs)) := rx
  have HNil := Lib.hid hnil
  clear rx hnil
  obtain ⟨x, rfl⟩ := u8_of hb1
  obtain ⟨y, rfl⟩ := u8_of hb2
  clear hb1 hb2 ha
  show Calls Try.prog 6 #[.slice A bs.length c, .int .i64 a, .int .u8 (x.toNat : Int), .int .u8 (y.toNat : Int)] w _
  by_cases hok : 1 ≤ bs.length ∧ bs.length ≤ 1000 ∧ x ≠ 0 ∧ y ≠ 0 ∧ 0 ≤ a
  rotate_left
  · cases c1 : decide ((bs.length : Int) < 1)
    rotate_left
    · go_enter Try.func6, Try.ntmps6
      go_wp2_with (fail)
      refine (knownN_any _).mono ?_
      rintro e w9 ⟨rfl, hch9⟩
      go_wp2_with (fail)
      go_ret
      exact ⟨rfl, hch9⟩
    cases c2 : decide ((1000 : Int) < (bs.length : Int))
    rotate_left
    · go_enter Try.func6, Try.ntmps6
      go_wp2_with (fail)
      refine (knownN_any _).mono ?_
      rintro e w9 ⟨rfl, hch9⟩
      go_wp2_with (fail)
      go_ret
      exact ⟨rfl, hch9⟩
    cases c3 : ((x.toNat : Int) == 0)
    rotate_left
    · go_enter Try.func6, Try.ntmps6
      go_wp2_with (fail)
      refine (knownN_any _).mono ?_
      rintro e w9 ⟨rfl, hch9⟩
      go_wp2_with (fail)
      go_ret
      exact ⟨rfl, hch9⟩
    cases c4 : ((y.toNat : Int) == 0)
    rotate_left
    · go_enter Try.func6, Try.ntmps6
      go_wp2_with (fail)
      refine (knownN_any _).mono ?_
      rintro e w9 ⟨rfl, hch9⟩
      go_wp2_with (fail)
      go_ret
      exact ⟨rfl, hch9⟩
    have c5 : decide (a < 0) = true := decide_eq_true (by
      have d1 := of_decide_eq_false c1
      have d2 := of_decide_eq_false c2
      have d3 : x ≠ 0 := fun e => by subst e; simp at c3
      have d4 : y ≠ 0 := fun e => by subst e; simp at c4
      have d5 : ¬ 0 ≤ a := fun h => hok ⟨by omega, by omega, d3, d4, h⟩
      omega)
    go_enter Try.func6, Try.ntmps6
    go_wp2_with (fail)
    refine (knownN_any _).mono ?_
    rintro e w9 ⟨rfl, hch9⟩
    go_wp2_with (fail)
    go_ret
    exact ⟨rfl, hch9⟩
  obtain ⟨h1, h2, h3, h4, h5⟩ := hok
  have c1 : decide ((bs.length : Int) < 1) = false := decide_eq_false (by omega)
  have c2 : decide ((1000 : Int) < (bs.length : Int)) = false := decide_eq_false (by omega)
  have c3 : ((x.toNat : Int) == 0) = false := by rw [beq_eq_false_iff_ne]; intro e; exact h3 (UInt8.toNat_inj.1 (by simpa using e))
  have c4 : ((y.toNat : Int) == 0) = false := by rw [beq_eq_false_iff_ne]; intro e; exact h4 (UInt8.toNat_inj.1 (by simpa using e))
  have c5 : decide (a < 0) = false := decide_eq_false (by omega)
  obtain ⟨q, rfl⟩ := Int.eq_ofNat_of_zero_le h5
  obtain ⟨j, hj⟩ : ∃ j, (max 0 (q : Int)).toNat % bs.length = j := ⟨_, rfl⟩
  have hj2 : q % bs.length = j := by rw [← hj]; rfl
  have hjl : j < bs.length := by rw [← hj2]; exact Nat.mod_lt _ (by omega)
  obtain ⟨d2, hd2⟩ : ∃ d2, Hid (bs.set j ((bs.getD j 0) ^^^ x) = d2) := ⟨_, rfl⟩
  have Hd2l : Hid (d2.length = bs.length) := by unfold Hid; rw [← hd2.out]; simp
  have MI : Hid (MsgV.In w ⟨0, 1, bs, A, c⟩) := ⟨RX.out, HNil.out, by show bs.length ≤ _; omega⟩
  have HSY := Lib.hid (fun (v : World) (gn : Nat) (h : NetA w v gn [⟨0, 1, bs, false⟩, ⟨0, 1, bs, false⟩] []) => spoil_yes h (by simp) 0 q x ⟨0, 1, bs, false⟩ rfl h3 h1 rfl j hj)
  have H3 := Lib.hid h3
  have Hj := Lib.hid hj
  clear hj h3 h4
  go_enter Try.func6, Try.ntmps6
  go_wp2_with (fail)
  refine (new_all (All.start w)).mono ?_
  rintro e w1 ⟨gn, rfl, H1, hs1, hgn⟩
  have HN := Lib.hid (H1.newAt 35 #[.int .i64 0, .int .i64 1, .slice A bs.length c] rfl)
  clear H1
  go_wp2_with (fail)
  refine (send_one ⟨0, 1, bs, A, c⟩ MI.out HN.out (by simp)).mono ?_
  rintro e w2 ⟨rfl, H, hs2⟩
  clear HN
  have HN : Hid (NetA w w2 gn [⟨0, 1, bs, false⟩] []) := H
  clear H
  have hif : (if ([] : List MV).length < 1024 then (1 : Int) else 0) = 1 := rfl
  rw [hif]
  clear hif
  go_wp2_with (fail)
  refine (twice_all HN.out (by simp) (fun m hm => by obtain rfl := List.mem_singleton.1 hm; show bs.length ≤ _; omega) 0).mono ?_
  rintro e w3 ⟨he, H, hs3⟩
  obtain rfl : e = .returned (.bool true) := he
  clear HN
  have HN : Hid (NetA w w3 gn [⟨0, 1, bs, false⟩, ⟨0, 1, bs, false⟩] []) := H
  clear H
  go_wp2_with (fail)
  refine (HSY.out _ _ HN.out).mono ?_
  rintro e w4 ⟨rfl, H, hs4⟩
  clear HN HSY
  have HN : Hid (NetA w w4 gn [⟨0, 1, d2, true⟩, ⟨0, 1, bs, false⟩] []) := by rw [← hd2.out]; exact H
  clear H
  go_wp2_with (fail)
  refine (spoil_no HN.out (by simp) 0 q y ⟨0, 1, d2, true⟩ rfl (.inr (.inr rfl))).mono ?_
  rintro e w5 ⟨rfl, rfl⟩
  go_wp2_with (fail)
  refine (twice_all HN.out (by simp) (fun m hm => by
    simp only [List.mem_cons, List.not_mem_nil, or_false] at hm
    rcases hm with rfl | rfl
    · show d2.length ≤ _; rw [Hd2l.out]; omega
    · show bs.length ≤ _; omega) 0).mono ?_
  rintro e w6 ⟨he, H, hs6⟩
  obtain rfl : e = .returned (.bool true) := he
  clear HN
  have HN : Hid (NetA w w6 gn [⟨0, 1, d2, true⟩, ⟨0, 1, bs, false⟩, ⟨0, 1, d2, true⟩] []) := H
  clear H
  go_wp2_with (fail)
  refine (spoil_no HN.out (by simp) 2 q y ⟨0, 1, d2, true⟩ rfl (.inr (.inr rfl))).mono ?_
  rintro e w7 ⟨rfl, rfl⟩
  go_wp2_with (fail)
  refine (give_all HN.out (by simp) (by simp) 0 0 rfl ⟨0, 1, d2, true⟩ rfl).mono ?_
  rintro e v0 ⟨X0, e0, rfl, H, hzz0⟩
  clear HN
  have HA := H.newAt 35 #[.int .i64 0, .int .i64 1, .slice X0 d2.length e0] rfl
  have HN : Hid (NetA w (v0.alloc (.cells #[.int .i64 0, .int .i64 1, .slice X0 d2.length e0] 35)) gn [⟨0, 1, bs, false⟩, ⟨0, 1, d2, true⟩] (rAt v0.heap.size 35 #[.int .i64 0, .int .i64 1, .slice X0 d2.length e0] :: rRow 0 5 X0 d2.length e0 (cB d2) :: [])) := HA
  clear H HA
  go_wp2_with (fail)
  refine (give_all HN.out (by simp) (by simp) 0 0 rfl ⟨0, 1, bs, false⟩ rfl).mono ?_
  rintro e v1 ⟨X1, e1, rfl, H, hzz1⟩
  clear HN
  have HA := H.newAt 35 #[.int .i64 0, .int .i64 1, .slice X1 bs.length e1] rfl
  have HN : Hid (NetA w (v1.alloc (.cells #[.int .i64 0, .int .i64 1, .slice X1 bs.length e1] 35)) gn [⟨0, 1, d2, true⟩] (rAt v1.heap.size 35 #[.int .i64 0, .int .i64 1, .slice X1 bs.length e1] :: rRow 0 5 X1 bs.length e1 (cB bs) :: rAt v0.heap.size 35 #[.int .i64 0, .int .i64 1, .slice X0 d2.length e0] :: rRow 0 5 X0 d2.length e0 (cB d2) :: [])) := HA
  clear H HA
  go_wp2_with (fail)
  refine (give_all HN.out (by simp) (by simp) 0 0 rfl ⟨0, 1, d2, true⟩ rfl).mono ?_
  rintro e v2 ⟨X2, e2, rfl, H, hzz2⟩
  clear HN
  have HA := H.newAt 35 #[.int .i64 0, .int .i64 1, .slice X2 d2.length e2] rfl
  have HN : Hid (NetA w (v2.alloc (.cells #[.int .i64 0, .int .i64 1, .slice X2 d2.length e2] 35)) gn [] (rAt v2.heap.size 35 #[.int .i64 0, .int .i64 1, .slice X2 d2.length e2] :: rRow 0 5 X2 d2.length e2 (cB d2) :: rAt v1.heap.size 35 #[.int .i64 0, .int .i64 1, .slice X1 bs.length e1] :: rRow 0 5 X1 bs.length e1 (cB bs) :: rAt v0.heap.size 35 #[.int .i64 0, .int .i64 1, .slice X0 d2.length e0] :: rRow 0 5 X0 d2.length e0 (cB d2) :: [])) := HA
  clear H HA
  go_upto_region 9 with (fail)
  generalize v2.alloc (.cells #[.int .i64 0, .int .i64 1, .slice X2 d2.length e2] 35) = W2 at *
  go_wp2_with (first
    | (at_builtin
       refine wpList_append_rd _ rfl (.tmp 93) (.tmp 94) 33 (by rfl) W2.heap.size 5 i0 _ 1 1 Try.underlying33 hi hz0 hz1 hz2 rfl (by omega) (.slice (some ⟨W2.heap.size, 0, none⟩) 0 0) 0 [] (by rfl) (World.ownsRow_made W2 #[] 0 (Nat.le_refl _) (by simp [maxLen]) rfl) A bs.length c (cB bs) (by rfl) ((RX.out.keep0 HN.out.chg).alloc _) (cB_one _) (by unfold maxLen; omega) (by omega) (by simp) ?_
       intro AW cw v3 hown3 hg3 hb3
       simp only [Nat.zero_add, List.nil_append] at hown3
       have hch3 : Chg [] W2 v3 := ((Chg.refl [] W2).alloc _).grown hg3 (fun k hk => .inr (by simp [Value.ownBlock] at hk; omega))
       have hsz3 := hch3.size))
  obtain ⟨gw, rfl, hgw, hgwl, hcw, hfw⟩ := own_cells hown3 (by omega)
  have HN3 := Lib.hid (HN.out.row hch3 hown3)
  have HOW := Lib.hid hown3
  have hbj : bs.getD j 0 = bs[j] := by rw [List.getD_eq_getElem?_getD, List.getElem?_eq_getElem hjl]; rfl
  have HX := Lib.hid (xor_u8 bs[j] x)
  have hq9 : Chg [] v3 v3.drew := (Chg.refl _ _).drew
  have y1 : v3.drew.cell? ⟨gw, j, none⟩ = some (.int .u8 (bs[j].toNat : Int)) := (hq9.cell (p := ⟨gw, j, none⟩) hgwl (by simp)).trans (hcw j _ (cB_get hjl))
  have fz1 : v3.drew.frozen? ⟨gw, j, none⟩ = false := hfw j
  have HOW4 : Hid (((v3.setCell ⟨gw, j, none⟩ (.int .u8 ((bs[j] ^^^ x).toNat : Int))).drew).ownsRow W2.heap.size 5 1 (.slice (some ⟨gw, 0, none⟩) bs.length cw) bs.length (cB d2)) := by
    rw [← hd2.out, hbj, cB_setN]
    exact own_k0 (own_setN HOW.out j _) ((Chg.refl _ _).drew)
  have hq10 : Chg [gw] v3 ((v3.setCell ⟨gw, j, none⟩ (.int .u8 ((bs[j] ^^^ x).toNat : Int))).drew) := ((Chg.refl _ _).setCell (.inl (by simp)) _).drew
  have fz2 : ((v3.setCell ⟨gw, j, none⟩ (.int .u8 ((bs[j] ^^^ x).toNat : Int))).drew).frozen? ⟨gw, j, none⟩ = false := own_free HOW4.out j
  have HN4 := Lib.hid (HN3.out.ruin (show Chg (rRow 0 5 (some ⟨gw, 0, none⟩) bs.length cw (cB bs)).F v3 ((v3.setCell ⟨gw, j, none⟩ (.int .u8 ((bs[j] ^^^ x).toNat : Int))).drew) from hq10))
  clear HOW HN3 hown3 hg3 hb3 hcw hfw hbj hq10 hq9 HN
  generalize bs[j] ^^^ x = xb at *
  generalize bs[j] = yb at *
  have HX1 := HX.out
  have hqt : (q : Int).tmod (bs.length : Int) = (j : Int) := by rw [← hj2]; rfl
  have hdne : ¬ bs = [] := fun e => by rw [e] at h1; simp at h1
  have hji : (j : Int) < (bs.length : Int) := by omega
  refine wp_region_held_drew (S := fun w' => w'.frozen? ⟨gw, j, none⟩ = false) (by kernel_rfl) ?_ (fun hHeld => ?_)
  · exact fz1
  refine takeW (i := 0) (d := (some 96)) (v := ?_) rfl rfl (by kernel_rfl) (by kernel_rfl) (by kernel_rfl) (fun _ _ _ h => h) (by rfl) ?_ (by assumption) ?_
  rotate_left
  · intro w' hSw; (try dsimp only at hSw); go_simp; try with_reducible rfl
  try simp only [Act.put, List.setIfInBounds_toArray, List.set_cons_zero, List.set_cons_succ]
  refine takeW (i := 1) (d := (some 97)) (v := ?_) rfl rfl (by kernel_rfl) (by kernel_rfl) (by kernel_rfl) (fun _ _ _ h => h) (by rfl) ?_ (by assumption) ?_
  rotate_left
  · intro w' hSw; (try dsimp only at hSw); go_simp; try with_reducible rfl
  try simp only [Act.put, List.setIfInBounds_toArray, List.set_cons_zero, List.set_cons_succ]
  refine takeW (i := 2) (d := (some 98)) (v := ?_) rfl rfl (by kernel_rfl) (by kernel_rfl) (by kernel_rfl) (fun _ _ _ h => h) (by rfl) ?_ (by assumption) ?_
  rotate_left
  · intro w' hSw; (try dsimp only at hSw); go_simp; try with_reducible rfl
  try simp only [Act.put, List.setIfInBounds_toArray, List.set_cons_zero, List.set_cons_succ]
  refine takeW (i := 3) (d := (some 99)) (v := ?_) rfl rfl (by kernel_rfl) (by kernel_rfl) (by kernel_rfl) (fun _ _ _ h => h) (by rfl) ?_ (by assumption) ?_
  rotate_left
  · intro w' hSw; (try dsimp only at hSw); go_simp; try with_reducible rfl
  try simp only [Act.put, List.setIfInBounds_toArray, List.set_cons_zero, List.set_cons_succ]
  refine takeW (i := 4) (d := (some 100)) (v := ?_) rfl rfl (by kernel_rfl) (by kernel_rfl) (by kernel_rfl) (fun _ _ _ h => h) (by rfl) ?_ (by assumption) ?_
  rotate_left
  · intro w' hSw; (try dsimp only at hSw); go_simp; try with_reducible rfl
  try simp only [Act.put, List.setIfInBounds_toArray, List.set_cons_zero, List.set_cons_succ]
  refine takeW (i := 5) (d := (some 101)) (v := ?_) rfl rfl (by kernel_rfl) (by kernel_rfl) (by kernel_rfl) (fun _ _ _ h => h) (by rfl) ?_ (by assumption) ?_
  rotate_left
  · intro w' hSw; (try dsimp only at hSw); go_simp; try with_reducible rfl
  try simp only [Act.put, List.setIfInBounds_toArray, List.set_cons_zero, List.set_cons_succ]
  refine takeW (i := 6) (d := (some 102)) (v := ?_) rfl rfl (by kernel_rfl) (by kernel_rfl) (by kernel_rfl) (fun _ _ _ h => h) (by rfl) ?_ (by assumption) ?_
  rotate_left
  · intro w' hSw; (try dsimp only at hSw); go_simp; try with_reducible rfl
  try simp only [Act.put, List.setIfInBounds_toArray, List.set_cons_zero, List.set_cons_succ]
  refine takeW (i := 7) (d := (some 103)) (v := ?_) rfl rfl (by kernel_rfl) (by kernel_rfl) (by kernel_rfl) (fun _ _ _ h => h) (by rfl) ?_ (by assumption) ?_
  rotate_left
  · intro w' hSw; (try dsimp only at hSw); go_simp; try with_reducible rfl
  try simp only [Act.put, List.setIfInBounds_toArray, List.set_cons_zero, List.set_cons_succ]
  refine takeW (i := 8) (d := (some 104)) (v := ?_) rfl rfl (by kernel_rfl) (by kernel_rfl) (by kernel_rfl) (fun _ _ _ h => h) (by rfl) ?_ (by assumption) ?_
  rotate_left
  · intro w' hSw; (try dsimp only at hSw); go_simp; try with_reducible rfl
  try simp only [Act.put, List.setIfInBounds_toArray, List.set_cons_zero, List.set_cons_succ]
  refine takeW (i := 9) (d := (some 105)) (v := ?_) rfl rfl (by kernel_rfl) (by kernel_rfl) (by kernel_rfl) (fun _ _ _ h => h) (by rfl) ?_ (by assumption) ?_
  rotate_left
  · intro w' hSw; (try dsimp only at hSw); go_simp; try with_reducible rfl
  try simp only [Act.put, List.setIfInBounds_toArray, List.set_cons_zero, List.set_cons_succ]
  refine takeW (i := 10) (d := (some 106)) (v := ?_) rfl rfl (by kernel_rfl) (by kernel_rfl) (by kernel_rfl) (fun _ _ _ h => h) (by rfl) ?_ (by assumption) ?_
  rotate_left
  · intro w' hSw; (try dsimp only at hSw); go_simp; try with_reducible rfl
  try simp only [Act.put, List.setIfInBounds_toArray, List.set_cons_zero, List.set_cons_succ]
  refine takeW (i := 12) (d := (some 108)) (v := ?_) rfl rfl (by kernel_rfl) (by kernel_rfl) (by kernel_rfl) (fun _ _ _ h => h) (by rfl) ?_ (by assumption) ?_
  rotate_left
  · intro w' hSw; (try dsimp only at hSw); go_simp; try with_reducible rfl
  try simp only [Act.put, List.setIfInBounds_toArray, List.set_cons_zero, List.set_cons_succ]
  refine wpAnyH_ready (rs := [11]) (by kernel_rfl) (by simp) ?_
  refine AllReadyH.cons rfl (fun K hK => ?_) AllReadyH.nil
  go_simp
  go_wp2_with (fail)
  refine hK.out _ _ ?_ (fun hHeld => ?_)
  · exact fz1
  clear hK K
  try simp only [Act.put, List.setIfInBounds_toArray, List.set_cons_zero, List.set_cons_succ]
  refine takeW (i := 13) (d := (some 109)) (v := ?_) rfl rfl (by kernel_rfl) (by kernel_rfl) (by kernel_rfl) (fun _ _ _ h => h) (by rfl) ?_ (by assumption) ?_
  rotate_left
  · intro w' hSw; (try dsimp only at hSw); go_simp; try with_reducible rfl
  try simp only [Act.put, List.setIfInBounds_toArray, List.set_cons_zero, List.set_cons_succ]
  refine takeW (i := 14) (d := (some 110)) (v := ?_) rfl rfl (by kernel_rfl) (by kernel_rfl) (by kernel_rfl) (fun _ _ _ h => h) (by rfl) ?_ (by assumption) ?_
  rotate_left
  · intro w' hSw; (try dsimp only at hSw); go_simp; try with_reducible rfl
  try simp only [Act.put, List.setIfInBounds_toArray, List.set_cons_zero, List.set_cons_succ]
  refine wpAnyH_ready (rs := [15]) (by kernel_rfl) (by simp) ?_
  refine AllReadyH.cons rfl (fun K hK => ?_) AllReadyH.nil
  go_simp
  go_wp2_with (fail)
  refine hK.out _ _ ?_ (fun hHeld => ?_)
  · exact fz2
  clear hK K
  try simp only [Act.put, List.setIfInBounds_toArray, List.set_cons_zero, List.set_cons_succ]
  refine wpAnyH_done (by kernel_rfl) ?_ _
  generalize (v3.setCell ⟨gw, j, none⟩ (.int .u8 (xb.toNat : Int))).drew = v4 at *
  have x2 := (HN4.out.at_ 4 rfl : At _ _ _ _).cell 2
  simp only [List.getElem?_toArray, List.getElem?_cons_zero, List.getElem?_cons_succ] at x2
  clear fz1 y1 fz2 hqt hdne hji HX1
  go_wp2_with (fail)
  refine (same_yes _ X0 (some ⟨gw, 0, none⟩) _ _ e0 cw d2 rfl Hd2l.out (Rd.of_own (HN4.out.at_ 5 rfl)) (by first | exact Rd.of_own HOW4.out | (rw [Hd2l.out]; exact Rd.of_own HOW4.out)) (by rw [Hd2l.out]; omega)).mono ?_
  rintro e v5 ⟨rfl, hc5⟩
  have HN5 := Lib.hid (HN4.out.quiet hc5)
  have HOW5 := Lib.hid (own_k0 HOW4.out hc5)
  have x2 := (HN5.out.at_ 2 rfl : At _ _ _ _).cell 2
  simp only [List.getElem?_toArray, List.getElem?_cons_zero, List.getElem?_cons_succ] at x2
  clear HN4 HOW4 hc5
  go_wp2_with (fail)
  refine (same_yes _ X1 A _ _ e1 c bs rfl rfl (Rd.of_own (HN5.out.at_ 3 rfl)) (RX.out.keep0 HN5.out.chg) (by omega)).mono ?_
  rintro e v6 ⟨rfl, hc6⟩
  have HN6 := Lib.hid (HN5.out.quiet hc6)
  have HOW6 := Lib.hid (own_k0 HOW5.out hc6)
  have x2 := (HN6.out.at_ 0 rfl : At _ _ _ _).cell 2
  simp only [List.getElem?_toArray, List.getElem?_cons_zero, List.getElem?_cons_succ] at x2
  clear HN5 HOW5 hc6
  go_wp2_with (fail)
  refine (same_yes _ X2 (some ⟨gw, 0, none⟩) _ _ e2 cw d2 rfl Hd2l.out (Rd.of_own (HN6.out.at_ 1 rfl)) (by first | exact Rd.of_own HOW6.out | (rw [Hd2l.out]; exact Rd.of_own HOW6.out)) (by rw [Hd2l.out]; omega)).mono ?_
  rintro e v7 ⟨rfl, hc7⟩
  have HN7 := Lib.hid (HN6.out.quiet hc7)
  clear HN6 HOW6 hc7
  go_wp2_with (fail)
  refine (len_all HN7.out).mono ?_
  rintro e v8 ⟨rfl, rfl⟩
  go_wp2_with (fail)
  refine (knownN_any _).mono ?_
  rintro e w9 ⟨rfl, hch9⟩
  go_wp2_with (fail)
  go_ret
  exact ⟨rfl, HN7.out.chg.trans hch9 (by simp)⟩
end Go.Proofs.Ytbgdcplbekoemaa
