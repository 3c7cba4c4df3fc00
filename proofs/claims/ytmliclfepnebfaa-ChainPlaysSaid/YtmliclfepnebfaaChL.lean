
/-
  chain: slices.BinarySearchFunc: where a version stands among rising ones, and whether one stands there.
-/
import Derived.Test.YtmliclfepnebfaaChK2
namespace Go.Proofs.Ytmliclfepnebfaa
open Go.RowKit
set_option linter.unusedVariables false
set_option linter.unusedSimpArgs false
theorem Rd.getV {w : World} {A : Option Addr} {n : Nat} {l : List VrV} (h : Rd w 6 A n (cVr l)) {k : Nat} (hk : k < l.length) :
    ∃ ad, A = some ad ∧ ad.block < w.heap.size ∧ w.cell? (ad.add (k * 6)) = some (.int .i64 l[k].m) ∧ ∀ j u, 0 < j → (l[k].cells)[j]? = some u → w.cell? ⟨(ad.add (k * 6)).block, (ad.add (k * 6)).off + j, none⟩ = some u := by
  have hn : n = l.length := by have := h.len; rw [cVr_len] at this; omega
  obtain ⟨ad, e, hb, hc⟩ := h.at_ (by omega)
  refine ⟨ad, e, hb, hc _ _ (by have := cVr_get hk (j := 0) (by omega); rw [Nat.add_zero] at this; rw [this]; rfl), fun j u hj hu => ?_⟩
  have hj9 : j < 6 := by
    have := (List.getElem?_eq_some_iff.1 hu).1
    exact this
  have h1 := hc (k * 6 + j) u (by rw [cVr_get hk hj9]; exact hu)
  rw [← add_add] at h1
  unfold Addr.add at h1
  rw [if_neg (show ¬ j = 0 by omega)] at h1
  exact h1
theorem cmpV_trans {a b c : VV} (h1 : cmpV a b < 0) (h2 : cmpV b c < 0) : cmpV a c < 0 := by
  rw [cmpV_lt] at *; omega
theorem Rise.at_ {l : List VV} (h : Rise l) {i j : Nat} (hij : i < j) (hj : j < l.length) : cmpV (l[i]'(by omega)) l[j] < 0 := List.pairwise_iff_getElem.1 h i j (by omega) hj hij
/-- Below a version stand those ahead of its place. -/
theorem posV_iff {l : List VV} (h : Rise l) (v : VV) {i : Nat} (hi : i < l.length) : cmpV l[i] v < 0 ↔ i < posV l v := by
  obtain ⟨s1, s2⟩ := takeWhile_spec (fun x => decide (cmpV x v < 0)) l
  constructor
  · intro hlt
    rcases Nat.lt_or_ge i (posV l v) with h1 | h1
    · exact h1
    · exfalso
      have h3 := s2 (show posV l v < l.length by omega)
      have h4 : ¬ cmpV (l[posV l v]'(by omega)) v < 0 := of_decide_eq_false h3
      rcases Nat.lt_or_ge (posV l v) i with h2 | h2
      · exact h4 (cmpV_trans (h.at_ h2 hi) hlt)
      · have : posV l v = i := by omega
        simp only [this] at h4
        exact h4 hlt
  · intro hlt
    exact of_decide_eq_true (s1 i hi hlt)
theorem hasV_pos {l : List VV} (h : Rise l) (v : VV) : hasV l v = if hp : posV l v < l.length then (cmpV (l[posV l v]) v == 0) else false := by
  have hstep : ∀ j (hj : j < l.length), cmpV l[j] v = 0 → j = posV l v := fun j hj h0 => by
    have h1 : ¬ j < posV l v := fun h2 => by have := (posV_iff h v hj).2 h2; omega
    rcases Nat.lt_or_ge (posV l v) j with h2 | h2
    · exfalso
      have h3 := h.at_ h2 hj
      have h4 : cmpV (l[posV l v]'(by omega)) v < 0 := by rw [cmpV_eq] at h0; rw [cmpV_lt] at *; omega
      have := (posV_iff h v (show posV l v < l.length by omega)).1 h4
      omega
    · omega
  unfold hasV
  rw [Bool.eq_iff_iff, List.any_eq_true]
  constructor
  · rintro ⟨x, hx, h0⟩
    obtain ⟨j, hj, rfl⟩ := List.getElem_of_mem hx
    have h0' : cmpV l[j] v = 0 := eq_of_beq h0
    have e := hstep j hj h0'
    have hp : posV l v < l.length := by omega
    rw [dif_pos hp]
    simp only [← e]
    exact h0
  · intro h1
    split at h1
    · rename_i hp
      exact ⟨_, List.getElem_mem hp, h1⟩
    · cases h1
set_option maxRecDepth 100000 in
set_option maxHeartbeats 6400000 in
theorem bsearch_any (w : World) (A : Option Addr) (cap : Nat) (ls : List VrV) (xm xc xo : Int) (xA : Option Addr) (xp : Nat) (xg : Bool) (xt : Int) (xd : List UInt8) (hr : Rd w 6 A ls.length (cVr ls)) (hn : ls.length ≤ 1000000) (hrise : Rise (ls.map VrV.v)) :
    Calls Try.prog 33 #[.slice A ls.length cap, .agg #[.int .i64 xm, .int .i64 xc, .int .i64 xo, .slice xA xd.length xp, .bool xg, .int .i64 xt], .func (.func 34) #[] #[]] w fun e w' => e = .returned (.tuple #[.int .i64 (posV (ls.map VrV.v) ⟨xm, xc, xo, xd, xg, xt⟩), .bool (hasV (ls.map VrV.v) ⟨xm, xc, xo, xd, xg, xt⟩)]) ∧ Chg [] w w' := by
  obtain ⟨x, hx⟩ : ∃ x : VV, Hid (⟨xm, xc, xo, xd, xg, xt⟩ = x) := ⟨_, rfl⟩
  rw [hx.out]
  have hpl : posV (ls.map VrV.v) x ≤ ls.length := by have := posV_le (ls.map VrV.v) x; rwa [List.length_map] at this
  have HP : Hid (∀ (i : Nat) (hi : i < ls.length), cmpV ls[i].v x < 0 ↔ i < posV (ls.map VrV.v) x) := fun i hi => by
    have := posV_iff hrise x (i := i) (by rw [List.length_map]; exact hi)
    rwa [List.getElem_map] at this
  have HH : Hid (hasV (ls.map VrV.v) x = if hp : posV (ls.map VrV.v) x < ls.length then (cmpV (ls[posV (ls.map VrV.v) x]).v x == 0) else false) := by
    have := hasV_pos hrise x
    simp only [List.length_map, List.getElem_map] at this
    exact this
  generalize posV (ls.map VrV.v) x = P at *
  generalize hasV (ls.map VrV.v) x = Bh at *
  have HX := Lib.hid (At.new w 28 #[.int .i64 xm, .int .i64 xc, .int .i64 xo, .slice xA xd.length xp, .bool xg, .int .i64 xt])
  have HQ := Lib.hid ((Chg.refl [] w).alloc (.cells #[.int .i64 xm, .int .i64 xc, .int .i64 xo, .slice xA xd.length xp, .bool xg, .int .i64 xt] 28))
  have HR := Lib.hid (hr.keep0 HQ.out)
  clear hr hrise
  go_enter Try.func33, Try.ntmps33
  go_wp2_with (fail)
  generalize hwz : w.alloc (.cells #[.int .i64 xm, .int .i64 xc, .int .i64 xo, .slice xA xd.length xp, .bool xg, .int .i64 xt] 28) = wz at *
  generalize hgx : w.heap.size = gx at *
  go_loopw [9, 10, 11] (fun i j h wr => ∃ a b : Nat, i = .int .i64 a ∧ j = .int .i64 b ∧ a ≤ P ∧ P ≤ b ∧ b ≤ ls.length ∧ Chg [] wz wr) (fun i j _ _ => (intOf j).toNat - (intOf i).toNat)
  case atStart => exact ⟨0, ls.length, rfl, rfl, Nat.zero_le _, hpl, Nat.le_refl _, Chg.refl _ _⟩
  case round =>
    obtain ⟨a, b, rfl, rfl, ha, hb, hbl, hch⟩ := hrel
    by_cases hab : a < b
    · have hlt : (a + b) / 2 < ls.length := by omega
      have hh1 : a ≤ (a + b) / 2 := by omega
      have hh2 : (a + b) / 2 < b := by omega
      generalize hh : (a + b) / 2 = h at *
      have habi : (a : Int) < (b : Int) := by omega
      go_upto_region 5 with (fail)
      have hhi : ((a : Int) + (b : Int)) / 2 = (h : Int) := by omega
      rw [hhi]
      have hi0 : (0 : Int) ≤ (h : Int) := by omega
      have hil : (h : Int) < (ls.length : Int) := by omega
      have HPh := Lib.hid (HP.out h hlt)
      obtain ⟨s, HS⟩ : ∃ s, Hid (cmpV ls[h].v x = s) := ⟨cmpV ls[h].v x, Lib.hid rfl⟩
      rw [HS.out] at HPh
      obtain ⟨ad, rfl, had, hc0, hc⟩ := (HR.out.keep0 hch).getV hlt
      have hc1 := hc 1 _ (by omega) rfl
      have hc2 := hc 2 _ (by omega) rfl
      have hc3 := hc 3 _ (by omega) rfl
      have hc4 := hc 4 _ (by omega) rfl
      have hc5 := hc 5 _ (by omega) rfl
      clear HP HH
      generalize ls[h] = y at *
      clear hc
      obtain ⟨m, c, o, A', d, p, g, t⟩ := y
      simp only [VrV.v] at hc0 hc1 hc2 hc3 hc4 hc5 HS
      have KK : Hid (∀ w', Chg [] wr w' → w'.cell? (ad.add (h * 6)) = some (.int .i64 m) ∧ w'.cell? ⟨(ad.add (h * 6)).block, (ad.add (h * 6)).off + 1, none⟩ = some (.int .i64 c) ∧ w'.cell? ⟨(ad.add (h * 6)).block, (ad.add (h * 6)).off + 2, none⟩ = some (.int .i64 o) ∧ w'.cell? ⟨(ad.add (h * 6)).block, (ad.add (h * 6)).off + 3, none⟩ = some (.slice A' d.length p) ∧ w'.cell? ⟨(ad.add (h * 6)).block, (ad.add (h * 6)).off + 4, none⟩ = some (.bool g) ∧ w'.cell? ⟨(ad.add (h * 6)).block, (ad.add (h * 6)).off + 5, none⟩ = some (.int .i64 t) ∧ w'.cell? ⟨gx, 0, none⟩ = some (.int .i64 xm) ∧ w'.cell? ⟨gx, 1, none⟩ = some (.int .i64 xc) ∧ w'.cell? ⟨gx, 2, none⟩ = some (.int .i64 xo) ∧ w'.cell? ⟨gx, 3, none⟩ = some (.slice xA xd.length xp) ∧ w'.cell? ⟨gx, 4, none⟩ = some (.bool xg) ∧ w'.cell? ⟨gx, 5, none⟩ = some (.int .i64 xt)) := fun w' hc =>
  ⟨(hc.cell (by rw [add_block]; exact had) (by simp)).trans hc0, (hc.cell (p := ⟨(ad.add (h * 6)).block, (ad.add (h * 6)).off + 1, none⟩) (by show (ad.add (h * 6)).block < _; rw [add_block]; exact had) (by simp)).trans hc1, (hc.cell (p := ⟨(ad.add (h * 6)).block, (ad.add (h * 6)).off + 2, none⟩) (by show (ad.add (h * 6)).block < _; rw [add_block]; exact had) (by simp)).trans hc2, (hc.cell (p := ⟨(ad.add (h * 6)).block, (ad.add (h * 6)).off + 3, none⟩) (by show (ad.add (h * 6)).block < _; rw [add_block]; exact had) (by simp)).trans hc3, (hc.cell (p := ⟨(ad.add (h * 6)).block, (ad.add (h * 6)).off + 4, none⟩) (by show (ad.add (h * 6)).block < _; rw [add_block]; exact had) (by simp)).trans hc4, (hc.cell (p := ⟨(ad.add (h * 6)).block, (ad.add (h * 6)).off + 5, none⟩) (by show (ad.add (h * 6)).block < _; rw [add_block]; exact had) (by simp)).trans hc5, (HX.out.keep (hch.trans hc (by simp)) (by simp)).cell 0, (HX.out.keep (hch.trans hc (by simp)) (by simp)).cell 1, (HX.out.keep (hch.trans hc (by simp)) (by simp)).cell 2, (HX.out.keep (hch.trans hc (by simp)) (by simp)).cell 3, (HX.out.keep (hch.trans hc (by simp)) (by simp)).cell 4, (HX.out.keep (hch.trans hc (by simp)) (by simp)).cell 5⟩
      clear hc0 hc1 hc2 hc3 hc4 hc5
      by_cases hs : s < 0
      · have hP := Lib.hid (HPh.out.1 hs)
        have hb0 : decide (s < 0) = true := decide_eq_true hs
        refine wp_region_held_drew (S := fun w' => w'.cell? (ad.add (h * 6)) = some (.int .i64 m) ∧ w'.cell? ⟨(ad.add (h * 6)).block, (ad.add (h * 6)).off + 1, none⟩ = some (.int .i64 c) ∧ w'.cell? ⟨(ad.add (h * 6)).block, (ad.add (h * 6)).off + 2, none⟩ = some (.int .i64 o) ∧ w'.cell? ⟨(ad.add (h * 6)).block, (ad.add (h * 6)).off + 3, none⟩ = some (.slice A' d.length p) ∧ w'.cell? ⟨(ad.add (h * 6)).block, (ad.add (h * 6)).off + 4, none⟩ = some (.bool g) ∧ w'.cell? ⟨(ad.add (h * 6)).block, (ad.add (h * 6)).off + 5, none⟩ = some (.int .i64 t) ∧ w'.cell? ⟨gx, 0, none⟩ = some (.int .i64 xm) ∧ w'.cell? ⟨gx, 1, none⟩ = some (.int .i64 xc) ∧ w'.cell? ⟨gx, 2, none⟩ = some (.int .i64 xo) ∧ w'.cell? ⟨gx, 3, none⟩ = some (.slice xA xd.length xp) ∧ w'.cell? ⟨gx, 4, none⟩ = some (.bool xg) ∧ w'.cell? ⟨gx, 5, none⟩ = some (.int .i64 xt)) (by kernel_rfl) ?_ (fun hHeld => ?_)
        · exact KK.out _ ((Chg.refl [] wr).drewN 1)
        refine takeW (i := 0) (d := (some 24)) (v := ?_) rfl rfl (by kernel_rfl) (by kernel_rfl) (by kernel_rfl) (fun _ _ _ h => h) (by rfl) ?_ (by assumption) ?_
        rotate_left
        · intro w' hSw; (try dsimp only at hSw); go_simp; try with_reducible rfl
        try simp only [Act.put, List.setIfInBounds_toArray, List.set_cons_zero, List.set_cons_succ]
        refine takeW (i := 1) (d := (some 25)) (v := ?_) rfl rfl (by kernel_rfl) (by kernel_rfl) (by kernel_rfl) (fun _ _ _ h => h) (by rfl) ?_ (by assumption) ?_
        rotate_left
        · intro w' hSw; (try dsimp only at hSw); go_simp; try with_reducible rfl
        try simp only [Act.put, List.setIfInBounds_toArray, List.set_cons_zero, List.set_cons_succ]
        refine takeW (i := 2) (d := (some 26)) (v := ?_) rfl rfl (by kernel_rfl) (by kernel_rfl) (by kernel_rfl) (fun _ _ _ h => h) (by rfl) ?_ (by assumption) ?_
        rotate_left
        · intro w' hSw; (try dsimp only at hSw); go_simp; try with_reducible rfl
        try simp only [Act.put, List.setIfInBounds_toArray, List.set_cons_zero, List.set_cons_succ]
        refine takeW (i := 3) (d := (some 27)) (v := ?_) rfl rfl (by kernel_rfl) (by kernel_rfl) (by kernel_rfl) (fun _ _ _ h => h) (by rfl) ?_ (by assumption) ?_
        rotate_left
        · intro w' hSw; (try dsimp only at hSw); go_simp; try with_reducible rfl
        try simp only [Act.put, List.setIfInBounds_toArray, List.set_cons_zero, List.set_cons_succ]
        refine takeW (i := 4) (d := (some 28)) (v := ?_) rfl rfl (by kernel_rfl) (by kernel_rfl) (by kernel_rfl) (fun _ _ _ h => h) (by rfl) ?_ (by assumption) ?_
        rotate_left
        · intro w' hSw; (try dsimp only at hSw); go_simp; try with_reducible rfl
        try simp only [Act.put, List.setIfInBounds_toArray, List.set_cons_zero, List.set_cons_succ]
        refine takeW (i := 5) (d := (some 29)) (v := ?_) rfl rfl (by kernel_rfl) (by kernel_rfl) (by kernel_rfl) (fun _ _ _ h => h) (by rfl) ?_ (by assumption) ?_
        rotate_left
        · intro w' hSw; (try dsimp only at hSw); go_simp; try with_reducible rfl
        try simp only [Act.put, List.setIfInBounds_toArray, List.set_cons_zero, List.set_cons_succ]
        refine wpAnyH_ready (rs := [6]) (by kernel_rfl) (by simp) ?_
        refine AllReadyH.cons rfl (fun K hK => ?_) AllReadyH.nil
        go_simp
        go_at_call 34
        (with_reducible refine (order_any _ m c o A' d.length p g t xm xc xo xA xd.length xp xg xt d xd).mono ?_)
        rintro e w3 ⟨rfl, hch3⟩
        rw [hx.out, HS.out]
        have hch23 : Hid (Chg [] wr w3) := ((by repeat' (first | (with_reducible assumption) | (with_reducible exact Chg.refl _ _) | (with_reducible refine Chg.alloc ?_ _) | (with_reducible refine Chg.drewN ?_ _) | (with_reducible refine Chg.drew ?_) | (with_reducible refine Chg.strW ?_ _ _) | (with_reducible refine Chg.t0 ?_ (by with_reducible assumption)))) : Chg [] wr w3)
        go_wp2_with (fail)
        refine hK.out _ _ ?_ (fun hHeld => ?_)
        · first | exact KK.out _ hch23.out | (dsimp only; exact KK.out _ hch23.out)
        clear hK K
        try simp only [Act.put, List.setIfInBounds_toArray, List.set_cons_zero, List.set_cons_succ]
        refine takeW (i := 7) (d := (some 31)) (v := ?_) rfl rfl (by kernel_rfl) (by kernel_rfl) (by kernel_rfl) (fun _ _ _ h => h) (by rfl) ?_ (by assumption) ?_
        rotate_left
        · intro w' hSw; (try dsimp only at hSw); go_simp; try with_reducible rfl
        try simp only [Act.put, List.setIfInBounds_toArray, List.set_cons_zero, List.set_cons_succ]
        refine wpAnyH_done (by kernel_rfl) ?_ _
        go_wp2_with (fail)
        go_roundw
        case rel => exact ⟨h + 1, b, by go_num, rfl, by have := hP.out; omega, hb, hbl, hch.trans hch23.out (by simp)⟩
        case measure => simp [intOf]; omega
      · have hP := Lib.hid (fun h0 : h < P => hs (HPh.out.2 h0))
        have hb0 : decide (s < 0) = false := decide_eq_false hs
        refine wp_region_held_drew (S := fun w' => w'.cell? (ad.add (h * 6)) = some (.int .i64 m) ∧ w'.cell? ⟨(ad.add (h * 6)).block, (ad.add (h * 6)).off + 1, none⟩ = some (.int .i64 c) ∧ w'.cell? ⟨(ad.add (h * 6)).block, (ad.add (h * 6)).off + 2, none⟩ = some (.int .i64 o) ∧ w'.cell? ⟨(ad.add (h * 6)).block, (ad.add (h * 6)).off + 3, none⟩ = some (.slice A' d.length p) ∧ w'.cell? ⟨(ad.add (h * 6)).block, (ad.add (h * 6)).off + 4, none⟩ = some (.bool g) ∧ w'.cell? ⟨(ad.add (h * 6)).block, (ad.add (h * 6)).off + 5, none⟩ = some (.int .i64 t) ∧ w'.cell? ⟨gx, 0, none⟩ = some (.int .i64 xm) ∧ w'.cell? ⟨gx, 1, none⟩ = some (.int .i64 xc) ∧ w'.cell? ⟨gx, 2, none⟩ = some (.int .i64 xo) ∧ w'.cell? ⟨gx, 3, none⟩ = some (.slice xA xd.length xp) ∧ w'.cell? ⟨gx, 4, none⟩ = some (.bool xg) ∧ w'.cell? ⟨gx, 5, none⟩ = some (.int .i64 xt)) (by kernel_rfl) ?_ (fun hHeld => ?_)
        · exact KK.out _ ((Chg.refl [] wr).drewN 1)
        refine takeW (i := 0) (d := (some 24)) (v := ?_) rfl rfl (by kernel_rfl) (by kernel_rfl) (by kernel_rfl) (fun _ _ _ h => h) (by rfl) ?_ (by assumption) ?_
        rotate_left
        · intro w' hSw; (try dsimp only at hSw); go_simp; try with_reducible rfl
        try simp only [Act.put, List.setIfInBounds_toArray, List.set_cons_zero, List.set_cons_succ]
        refine takeW (i := 1) (d := (some 25)) (v := ?_) rfl rfl (by kernel_rfl) (by kernel_rfl) (by kernel_rfl) (fun _ _ _ h => h) (by rfl) ?_ (by assumption) ?_
        rotate_left
        · intro w' hSw; (try dsimp only at hSw); go_simp; try with_reducible rfl
        try simp only [Act.put, List.setIfInBounds_toArray, List.set_cons_zero, List.set_cons_succ]
        refine takeW (i := 2) (d := (some 26)) (v := ?_) rfl rfl (by kernel_rfl) (by kernel_rfl) (by kernel_rfl) (fun _ _ _ h => h) (by rfl) ?_ (by assumption) ?_
        rotate_left
        · intro w' hSw; (try dsimp only at hSw); go_simp; try with_reducible rfl
        try simp only [Act.put, List.setIfInBounds_toArray, List.set_cons_zero, List.set_cons_succ]
        refine takeW (i := 3) (d := (some 27)) (v := ?_) rfl rfl (by kernel_rfl) (by kernel_rfl) (by kernel_rfl) (fun _ _ _ h => h) (by rfl) ?_ (by assumption) ?_
        rotate_left
        · intro w' hSw; (try dsimp only at hSw); go_simp; try with_reducible rfl
        try simp only [Act.put, List.setIfInBounds_toArray, List.set_cons_zero, List.set_cons_succ]
        refine takeW (i := 4) (d := (some 28)) (v := ?_) rfl rfl (by kernel_rfl) (by kernel_rfl) (by kernel_rfl) (fun _ _ _ h => h) (by rfl) ?_ (by assumption) ?_
        rotate_left
        · intro w' hSw; (try dsimp only at hSw); go_simp; try with_reducible rfl
        try simp only [Act.put, List.setIfInBounds_toArray, List.set_cons_zero, List.set_cons_succ]
        refine takeW (i := 5) (d := (some 29)) (v := ?_) rfl rfl (by kernel_rfl) (by kernel_rfl) (by kernel_rfl) (fun _ _ _ h => h) (by rfl) ?_ (by assumption) ?_
        rotate_left
        · intro w' hSw; (try dsimp only at hSw); go_simp; try with_reducible rfl
        try simp only [Act.put, List.setIfInBounds_toArray, List.set_cons_zero, List.set_cons_succ]
        refine wpAnyH_ready (rs := [6]) (by kernel_rfl) (by simp) ?_
        refine AllReadyH.cons rfl (fun K hK => ?_) AllReadyH.nil
        go_simp
        go_at_call 34
        (with_reducible refine (order_any _ m c o A' d.length p g t xm xc xo xA xd.length xp xg xt d xd).mono ?_)
        rintro e w3 ⟨rfl, hch3⟩
        rw [hx.out, HS.out]
        have hch23 : Hid (Chg [] wr w3) := ((by repeat' (first | (with_reducible assumption) | (with_reducible exact Chg.refl _ _) | (with_reducible refine Chg.alloc ?_ _) | (with_reducible refine Chg.drewN ?_ _) | (with_reducible refine Chg.drew ?_) | (with_reducible refine Chg.strW ?_ _ _) | (with_reducible refine Chg.t0 ?_ (by with_reducible assumption)))) : Chg [] wr w3)
        go_wp2_with (fail)
        refine hK.out _ _ ?_ (fun hHeld => ?_)
        · first | exact KK.out _ hch23.out | (dsimp only; exact KK.out _ hch23.out)
        clear hK K
        try simp only [Act.put, List.setIfInBounds_toArray, List.set_cons_zero, List.set_cons_succ]
        refine takeW (i := 7) (d := (some 31)) (v := ?_) rfl rfl (by kernel_rfl) (by kernel_rfl) (by kernel_rfl) (fun _ _ _ h => h) (by rfl) ?_ (by assumption) ?_
        rotate_left
        · intro w' hSw; (try dsimp only at hSw); go_simp; try with_reducible rfl
        try simp only [Act.put, List.setIfInBounds_toArray, List.set_cons_zero, List.set_cons_succ]
        refine wpAnyH_done (by kernel_rfl) ?_ _
        go_wp2_with (fail)
        go_roundw
        case rel => exact ⟨a, h, rfl, rfl, ha, by have := Nat.not_lt.1 hP.out; omega, by omega, hch.trans hch23.out (by simp)⟩
        case measure => simp [intOf]; omega
    · obtain rfl : a = P := by omega
      have hai : ¬ (a : Int) < (b : Int) := by omega
      by_cases hlt : a < ls.length
      · rw [dif_pos hlt] at HH
        have hli : (a : Int) < (ls.length : Int) := by omega
        have hi0 : (0 : Int) ≤ (a : Int) := by omega
        go_upto_region 8 with (fail)
        obtain ⟨s, HS⟩ : ∃ s, Hid (cmpV ls[a].v x = s) := ⟨cmpV ls[a].v x, Lib.hid rfl⟩
        rw [HS.out] at HH
        obtain ⟨ad, rfl, had, hc0, hc⟩ := (HR.out.keep0 hch).getV hlt
        have hc1 := hc 1 _ (by omega) rfl
        have hc2 := hc 2 _ (by omega) rfl
        have hc3 := hc 3 _ (by omega) rfl
        have hc4 := hc 4 _ (by omega) rfl
        have hc5 := hc 5 _ (by omega) rfl
        clear HP
        generalize ls[a] = y at *
        clear hc
        obtain ⟨m, c, o, A', d, p, g, t⟩ := y
        simp only [VrV.v] at hc0 hc1 hc2 hc3 hc4 hc5 HS
        have KK : Hid (∀ w', Chg [] wr w' → w'.cell? (ad.add (a * 6)) = some (.int .i64 m) ∧ w'.cell? ⟨(ad.add (a * 6)).block, (ad.add (a * 6)).off + 1, none⟩ = some (.int .i64 c) ∧ w'.cell? ⟨(ad.add (a * 6)).block, (ad.add (a * 6)).off + 2, none⟩ = some (.int .i64 o) ∧ w'.cell? ⟨(ad.add (a * 6)).block, (ad.add (a * 6)).off + 3, none⟩ = some (.slice A' d.length p) ∧ w'.cell? ⟨(ad.add (a * 6)).block, (ad.add (a * 6)).off + 4, none⟩ = some (.bool g) ∧ w'.cell? ⟨(ad.add (a * 6)).block, (ad.add (a * 6)).off + 5, none⟩ = some (.int .i64 t) ∧ w'.cell? ⟨gx, 0, none⟩ = some (.int .i64 xm) ∧ w'.cell? ⟨gx, 1, none⟩ = some (.int .i64 xc) ∧ w'.cell? ⟨gx, 2, none⟩ = some (.int .i64 xo) ∧ w'.cell? ⟨gx, 3, none⟩ = some (.slice xA xd.length xp) ∧ w'.cell? ⟨gx, 4, none⟩ = some (.bool xg) ∧ w'.cell? ⟨gx, 5, none⟩ = some (.int .i64 xt)) := fun w' hc =>
  ⟨(hc.cell (by rw [add_block]; exact had) (by simp)).trans hc0, (hc.cell (p := ⟨(ad.add (a * 6)).block, (ad.add (a * 6)).off + 1, none⟩) (by show (ad.add (a * 6)).block < _; rw [add_block]; exact had) (by simp)).trans hc1, (hc.cell (p := ⟨(ad.add (a * 6)).block, (ad.add (a * 6)).off + 2, none⟩) (by show (ad.add (a * 6)).block < _; rw [add_block]; exact had) (by simp)).trans hc2, (hc.cell (p := ⟨(ad.add (a * 6)).block, (ad.add (a * 6)).off + 3, none⟩) (by show (ad.add (a * 6)).block < _; rw [add_block]; exact had) (by simp)).trans hc3, (hc.cell (p := ⟨(ad.add (a * 6)).block, (ad.add (a * 6)).off + 4, none⟩) (by show (ad.add (a * 6)).block < _; rw [add_block]; exact had) (by simp)).trans hc4, (hc.cell (p := ⟨(ad.add (a * 6)).block, (ad.add (a * 6)).off + 5, none⟩) (by show (ad.add (a * 6)).block < _; rw [add_block]; exact had) (by simp)).trans hc5, (HX.out.keep (hch.trans hc (by simp)) (by simp)).cell 0, (HX.out.keep (hch.trans hc (by simp)) (by simp)).cell 1, (HX.out.keep (hch.trans hc (by simp)) (by simp)).cell 2, (HX.out.keep (hch.trans hc (by simp)) (by simp)).cell 3, (HX.out.keep (hch.trans hc (by simp)) (by simp)).cell 4, (HX.out.keep (hch.trans hc (by simp)) (by simp)).cell 5⟩
        clear hc0 hc1 hc2 hc3 hc4 hc5
        refine wp_region_held_drew (S := fun w' => w'.cell? (ad.add (a * 6)) = some (.int .i64 m) ∧ w'.cell? ⟨(ad.add (a * 6)).block, (ad.add (a * 6)).off + 1, none⟩ = some (.int .i64 c) ∧ w'.cell? ⟨(ad.add (a * 6)).block, (ad.add (a * 6)).off + 2, none⟩ = some (.int .i64 o) ∧ w'.cell? ⟨(ad.add (a * 6)).block, (ad.add (a * 6)).off + 3, none⟩ = some (.slice A' d.length p) ∧ w'.cell? ⟨(ad.add (a * 6)).block, (ad.add (a * 6)).off + 4, none⟩ = some (.bool g) ∧ w'.cell? ⟨(ad.add (a * 6)).block, (ad.add (a * 6)).off + 5, none⟩ = some (.int .i64 t) ∧ w'.cell? ⟨gx, 0, none⟩ = some (.int .i64 xm) ∧ w'.cell? ⟨gx, 1, none⟩ = some (.int .i64 xc) ∧ w'.cell? ⟨gx, 2, none⟩ = some (.int .i64 xo) ∧ w'.cell? ⟨gx, 3, none⟩ = some (.slice xA xd.length xp) ∧ w'.cell? ⟨gx, 4, none⟩ = some (.bool xg) ∧ w'.cell? ⟨gx, 5, none⟩ = some (.int .i64 xt)) (by kernel_rfl) ?_ (fun hHeld => ?_)
        · exact KK.out _ ((Chg.refl [] wr).drewN 1)
        refine takeW (i := 0) (d := (some 35)) (v := ?_) rfl rfl (by kernel_rfl) (by kernel_rfl) (by kernel_rfl) (fun _ _ _ h => h) (by rfl) ?_ (by assumption) ?_
        rotate_left
        · intro w' hSw; (try dsimp only at hSw); go_simp; try with_reducible rfl
        try simp only [Act.put, List.setIfInBounds_toArray, List.set_cons_zero, List.set_cons_succ]
        refine takeW (i := 1) (d := (some 36)) (v := ?_) rfl rfl (by kernel_rfl) (by kernel_rfl) (by kernel_rfl) (fun _ _ _ h => h) (by rfl) ?_ (by assumption) ?_
        rotate_left
        · intro w' hSw; (try dsimp only at hSw); go_simp; try with_reducible rfl
        try simp only [Act.put, List.setIfInBounds_toArray, List.set_cons_zero, List.set_cons_succ]
        refine takeW (i := 2) (d := (some 37)) (v := ?_) rfl rfl (by kernel_rfl) (by kernel_rfl) (by kernel_rfl) (fun _ _ _ h => h) (by rfl) ?_ (by assumption) ?_
        rotate_left
        · intro w' hSw; (try dsimp only at hSw); go_simp; try with_reducible rfl
        try simp only [Act.put, List.setIfInBounds_toArray, List.set_cons_zero, List.set_cons_succ]
        refine takeW (i := 3) (d := (some 38)) (v := ?_) rfl rfl (by kernel_rfl) (by kernel_rfl) (by kernel_rfl) (fun _ _ _ h => h) (by rfl) ?_ (by assumption) ?_
        rotate_left
        · intro w' hSw; (try dsimp only at hSw); go_simp; try with_reducible rfl
        try simp only [Act.put, List.setIfInBounds_toArray, List.set_cons_zero, List.set_cons_succ]
        refine takeW (i := 4) (d := (some 39)) (v := ?_) rfl rfl (by kernel_rfl) (by kernel_rfl) (by kernel_rfl) (fun _ _ _ h => h) (by rfl) ?_ (by assumption) ?_
        rotate_left
        · intro w' hSw; (try dsimp only at hSw); go_simp; try with_reducible rfl
        try simp only [Act.put, List.setIfInBounds_toArray, List.set_cons_zero, List.set_cons_succ]
        refine takeW (i := 5) (d := (some 40)) (v := ?_) rfl rfl (by kernel_rfl) (by kernel_rfl) (by kernel_rfl) (fun _ _ _ h => h) (by rfl) ?_ (by assumption) ?_
        rotate_left
        · intro w' hSw; (try dsimp only at hSw); go_simp; try with_reducible rfl
        try simp only [Act.put, List.setIfInBounds_toArray, List.set_cons_zero, List.set_cons_succ]
        refine takeW (i := 6) (d := (some 41)) (v := ?_) rfl rfl (by kernel_rfl) (by kernel_rfl) (by kernel_rfl) (fun _ _ _ h => h) (by rfl) ?_ (by assumption) ?_
        rotate_left
        · intro w' hSw; (try dsimp only at hSw); go_simp; try with_reducible rfl
        try simp only [Act.put, List.setIfInBounds_toArray, List.set_cons_zero, List.set_cons_succ]
        refine takeW (i := 7) (d := (some 42)) (v := ?_) rfl rfl (by kernel_rfl) (by kernel_rfl) (by kernel_rfl) (fun _ _ _ h => h) (by rfl) ?_ (by assumption) ?_
        rotate_left
        · intro w' hSw; (try dsimp only at hSw); go_simp; try with_reducible rfl
        try simp only [Act.put, List.setIfInBounds_toArray, List.set_cons_zero, List.set_cons_succ]
        refine takeW (i := 8) (d := (some 43)) (v := ?_) rfl rfl (by kernel_rfl) (by kernel_rfl) (by kernel_rfl) (fun _ _ _ h => h) (by rfl) ?_ (by assumption) ?_
        rotate_left
        · intro w' hSw; (try dsimp only at hSw); go_simp; try with_reducible rfl
        try simp only [Act.put, List.setIfInBounds_toArray, List.set_cons_zero, List.set_cons_succ]
        refine takeW (i := 9) (d := (some 44)) (v := ?_) rfl rfl (by kernel_rfl) (by kernel_rfl) (by kernel_rfl) (fun _ _ _ h => h) (by rfl) ?_ (by assumption) ?_
        rotate_left
        · intro w' hSw; (try dsimp only at hSw); go_simp; try with_reducible rfl
        try simp only [Act.put, List.setIfInBounds_toArray, List.set_cons_zero, List.set_cons_succ]
        refine takeW (i := 10) (d := (some 45)) (v := ?_) rfl rfl (by kernel_rfl) (by kernel_rfl) (by kernel_rfl) (fun _ _ _ h => h) (by rfl) ?_ (by assumption) ?_
        rotate_left
        · intro w' hSw; (try dsimp only at hSw); go_simp; try with_reducible rfl
        try simp only [Act.put, List.setIfInBounds_toArray, List.set_cons_zero, List.set_cons_succ]
        refine wpAnyH_ready (rs := [11]) (by kernel_rfl) (by simp) ?_
        refine AllReadyH.cons rfl (fun K hK => ?_) AllReadyH.nil
        go_simp
        go_at_call 34
        (with_reducible refine (order_any _ m c o A' d.length p g t xm xc xo xA xd.length xp xg xt d xd).mono ?_)
        rintro e w3 ⟨rfl, hch3⟩
        rw [hx.out, HS.out]
        have hch23 : Hid (Chg [] wr w3) := ((by repeat' (first | (with_reducible assumption) | (with_reducible exact Chg.refl _ _) | (with_reducible refine Chg.alloc ?_ _) | (with_reducible refine Chg.drewN ?_ _) | (with_reducible refine Chg.drew ?_) | (with_reducible refine Chg.strW ?_ _ _) | (with_reducible refine Chg.t0 ?_ (by with_reducible assumption)))) : Chg [] wr w3)
        go_wp2_with (fail)
        refine hK.out _ _ ?_ (fun hHeld => ?_)
        · first | exact KK.out _ hch23.out | (dsimp only; exact KK.out _ hch23.out)
        clear hK K
        try simp only [Act.put, List.setIfInBounds_toArray, List.set_cons_zero, List.set_cons_succ]
        refine takeW (i := 12) (d := (some 47)) (v := ?_) rfl rfl (by kernel_rfl) (by kernel_rfl) (by kernel_rfl) (fun _ _ _ h => h) (by rfl) ?_ (by assumption) ?_
        rotate_left
        · intro w' hSw; (try dsimp only at hSw); go_simp; try with_reducible rfl
        try simp only [Act.put, List.setIfInBounds_toArray, List.set_cons_zero, List.set_cons_succ]
        refine takeW (i := 13) (d := (some 48)) (v := ?_) rfl rfl (by kernel_rfl) (by kernel_rfl) (by kernel_rfl) (fun _ _ _ h => h) (by rfl) ?_ (by assumption) ?_
        rotate_left
        · intro w' hSw; (try dsimp only at hSw); go_simp; try with_reducible rfl
        try simp only [Act.put, List.setIfInBounds_toArray, List.set_cons_zero, List.set_cons_succ]
        refine takeW (i := 14) (d := (some 6)) (v := ?_) rfl rfl (by kernel_rfl) (by kernel_rfl) (by kernel_rfl) (fun _ _ _ h => h) (by rfl) ?_ (by assumption) ?_
        rotate_left
        · intro w' hSw; (try dsimp only at hSw); go_simp; try with_reducible rfl
        try simp only [Act.put, List.setIfInBounds_toArray, List.set_cons_zero, List.set_cons_succ]
        refine takeW (i := 15) (d := (some 7)) (v := ?_) rfl rfl (by kernel_rfl) (by kernel_rfl) (by kernel_rfl) (fun _ _ _ h => h) (by rfl) ?_ (by assumption) ?_
        rotate_left
        · intro w' hSw; (try dsimp only at hSw); go_simp; try with_reducible rfl
        try simp only [Act.put, List.setIfInBounds_toArray, List.set_cons_zero, List.set_cons_succ]
        refine wpAnyH_done (by kernel_rfl) ?_ _
        go_wp2_with (fail)
        go_ret2
        exact ⟨by rw [HH.out]; rfl, (HQ.out.trans hch (by simp)).trans hch23.out (by simp)⟩
      · rw [dif_neg hlt] at HH
        have hli : ¬ (a : Int) < (ls.length : Int) := by omega
        go_upto_region 8 with (fail)
        have KK : Hid (∀ w', Chg [] wr w' → True) := fun _ _ => trivial
        refine wp_region_held_drew (S := fun w' => True) (by kernel_rfl) ?_ (fun hHeld => ?_)
        · exact KK.out _ ((Chg.refl [] wr).drewN 1)
        refine takeW (i := 0) (d := (some 35)) (v := ?_) rfl rfl (by kernel_rfl) (by kernel_rfl) (by kernel_rfl) (fun _ _ _ h => h) (by rfl) ?_ (by assumption) ?_
        rotate_left
        · intro w' hSw; (try dsimp only at hSw); go_simp; try with_reducible rfl
        try simp only [Act.put, List.setIfInBounds_toArray, List.set_cons_zero, List.set_cons_succ]
        refine takeW (i := 1) (d := (some 36)) (v := ?_) rfl rfl (by kernel_rfl) (by kernel_rfl) (by kernel_rfl) (fun _ _ _ h => h) (by rfl) ?_ (by assumption) ?_
        rotate_left
        · intro w' hSw; (try dsimp only at hSw); go_simp; try with_reducible rfl
        try simp only [Act.put, List.setIfInBounds_toArray, List.set_cons_zero, List.set_cons_succ]
        refine takeW (i := 2) (d := (some 37)) (v := ?_) rfl rfl (by kernel_rfl) (by kernel_rfl) (by kernel_rfl) (fun _ _ _ h => h) (by rfl) ?_ (by assumption) ?_
        rotate_left
        · intro w' hSw; (try dsimp only at hSw); go_simp; try with_reducible rfl
        try simp only [Act.put, List.setIfInBounds_toArray, List.set_cons_zero, List.set_cons_succ]
        refine takeW (i := 3) (d := (some 38)) (v := ?_) rfl rfl (by kernel_rfl) (by kernel_rfl) (by kernel_rfl) (fun _ _ _ h => h) (by rfl) ?_ (by assumption) ?_
        rotate_left
        · intro w' hSw; (try dsimp only at hSw); go_simp; try with_reducible rfl
        try simp only [Act.put, List.setIfInBounds_toArray, List.set_cons_zero, List.set_cons_succ]
        refine takeW (i := 4) (d := (some 39)) (v := ?_) rfl rfl (by kernel_rfl) (by kernel_rfl) (by kernel_rfl) (fun _ _ _ h => h) (by rfl) ?_ (by assumption) ?_
        rotate_left
        · intro w' hSw; (try dsimp only at hSw); go_simp; try with_reducible rfl
        try simp only [Act.put, List.setIfInBounds_toArray, List.set_cons_zero, List.set_cons_succ]
        refine takeU (i := 5) (d := (some 40)) rfl rfl (by kernel_rfl) (by kernel_rfl) (by kernel_rfl) (fun _ _ _ h => h) (by rfl) (by assumption) ?_
        try simp only [Act.put, List.setIfInBounds_toArray, List.set_cons_zero, List.set_cons_succ]
        refine takeU (i := 6) (d := (some 41)) rfl rfl (by kernel_rfl) (by kernel_rfl) (by kernel_rfl) (fun _ _ _ h => h) (by rfl) (by assumption) ?_
        try simp only [Act.put, List.setIfInBounds_toArray, List.set_cons_zero, List.set_cons_succ]
        refine takeU (i := 7) (d := (some 42)) rfl rfl (by kernel_rfl) (by kernel_rfl) (by kernel_rfl) (fun _ _ _ h => h) (by rfl) (by assumption) ?_
        try simp only [Act.put, List.setIfInBounds_toArray, List.set_cons_zero, List.set_cons_succ]
        refine takeU (i := 8) (d := (some 43)) rfl rfl (by kernel_rfl) (by kernel_rfl) (by kernel_rfl) (fun _ _ _ h => h) (by rfl) (by assumption) ?_
        try simp only [Act.put, List.setIfInBounds_toArray, List.set_cons_zero, List.set_cons_succ]
        refine takeU (i := 9) (d := (some 44)) rfl rfl (by kernel_rfl) (by kernel_rfl) (by kernel_rfl) (fun _ _ _ h => h) (by rfl) (by assumption) ?_
        try simp only [Act.put, List.setIfInBounds_toArray, List.set_cons_zero, List.set_cons_succ]
        refine takeU (i := 10) (d := (some 45)) rfl rfl (by kernel_rfl) (by kernel_rfl) (by kernel_rfl) (fun _ _ _ h => h) (by rfl) (by assumption) ?_
        try simp only [Act.put, List.setIfInBounds_toArray, List.set_cons_zero, List.set_cons_succ]
        refine takeU (i := 11) (d := (some 46)) rfl rfl (by kernel_rfl) (by kernel_rfl) (by kernel_rfl) (fun _ _ _ h => h) (by rfl) (by assumption) ?_
        try simp only [Act.put, List.setIfInBounds_toArray, List.set_cons_zero, List.set_cons_succ]
        refine takeU (i := 12) (d := (some 47)) rfl rfl (by kernel_rfl) (by kernel_rfl) (by kernel_rfl) (fun _ _ _ h => h) (by rfl) (by assumption) ?_
        try simp only [Act.put, List.setIfInBounds_toArray, List.set_cons_zero, List.set_cons_succ]
        refine takeW (i := 13) (d := (some 48)) (v := ?_) rfl rfl (by kernel_rfl) (by kernel_rfl) (by kernel_rfl) (fun _ _ _ h => h) (by rfl) ?_ (by assumption) ?_
        rotate_left
        · intro w' hSw; (try dsimp only at hSw); go_simp; try with_reducible rfl
        try simp only [Act.put, List.setIfInBounds_toArray, List.set_cons_zero, List.set_cons_succ]
        refine takeW (i := 14) (d := (some 6)) (v := ?_) rfl rfl (by kernel_rfl) (by kernel_rfl) (by kernel_rfl) (fun _ _ _ h => h) (by rfl) ?_ (by assumption) ?_
        rotate_left
        · intro w' hSw; (try dsimp only at hSw); go_simp; try with_reducible rfl
        try simp only [Act.put, List.setIfInBounds_toArray, List.set_cons_zero, List.set_cons_succ]
        refine takeW (i := 15) (d := (some 7)) (v := ?_) rfl rfl (by kernel_rfl) (by kernel_rfl) (by kernel_rfl) (fun _ _ _ h => h) (by rfl) ?_ (by assumption) ?_
        rotate_left
        · intro w' hSw; (try dsimp only at hSw); go_simp; try with_reducible rfl
        try simp only [Act.put, List.setIfInBounds_toArray, List.set_cons_zero, List.set_cons_succ]
        refine wpAnyH_done (by kernel_rfl) ?_ _
        go_wp2_with (fail)
        go_ret2
        exact ⟨by rw [HH.out]; rfl, HQ.out.trans (hch.trans ((Chg.refl [] wr).drewN 1) (by simp)) (by simp)⟩
end Go.Proofs.Ytmliclfepnebfaa
