
/-
  Merged by merge.py: ChRP, ChRA, ChRT, ChRO, ChMax.
-/
import Derived.Test.YtmliclfepnebfaaChZ
import Derived.Test.YtmliclfepnebfaaHeldE
import Derived.Test.YtmliclfepnebfaaStW
import Derived.Deep.RegionLawGrows
namespace Go.Proofs.Ytmliclfepnebfaa
open Go.RowKit
set_option linter.unusedVariables false
set_option linter.unusedSimpArgs false
theorem ref_ne : 55 ≠ 28 ∧ 55 ≠ 5 := by decide
/-- A row stands apart from one that grew, which was made ahead of it or behind it. -/
theorem own_apart {w w' : World} {b e1 e2 s1 s2 n1 n2 : Nat} {b2 : Nat} {v1 v2 : Value} {xs1 xs2 : List Value} (h : w.ownsRow b e1 s1 v1 n1 xs1) (hg : w.grownBy w' v2.ownBlock) (h2 : w.ownsRow b2 e2 s2 v2 n2 xs2) (hne : e1 ≠ e2 := by decide) : w'.ownsRow b e1 s1 v1 n1 xs1 :=
  own_keep h (Chg.of_grown hg) (fun j hj hm => own_ne1 h h2 hne j hj (by simpa using hm))
theorem putR_done {T : TypeId} {w w7 : World} {gn : Nat} {A A5 A7 : Option Addr} {c c5 c7 b b7 P : Nat} {ms : List VrV} {v : VV} (H : ChP T gn A c ms w) (hT : T ≠ 28) (hT2 : T ≠ 5) (h7 : Chg [] w w7)
    (hO : w7.ownsRow b 5 1 (.slice A5 v.d.length c5) v.d.length (cB v.d)) (hb : w.heap.size ≤ b) (hown7 : w7.ownsRow b7 28 6 (.slice A7 (ms.length + 1) c7) (ms.length + 1) ((cVr ms).take (P * 6) ++ [.int .i64 v.m, .int .i64 v.c, .int .i64 v.o, .slice A5 v.d.length c5, .bool v.g, .int .i64 v.t] ++ (cVr ms).drop (P * 6)))
    (hb7 : w.heap.size ≤ b7) :
    ChP T gn A7 c7 (ms.take P ++ ⟨v.m, v.c, v.o, A5, v.d, c5, v.g, v.t⟩ :: ms.drop P) (w7.setCell ⟨gn, 0, none⟩ (.slice A7 (ms.length + 1) c7)) ∧ Chg (gn :: blk A) w (w7.setCell ⟨gn, 0, none⟩ (.slice A7 (ms.length + 1) c7)) ∧ (∀ j ∈ blk A7, j ∈ blk A ∨ w.heap.size ≤ j) ∧ ∀ j ∈ blk A5, w.heap.size ≤ j := by
  have hlen : (ms.take P ++ (⟨v.m, v.c, v.o, A5, v.d, c5, v.g, v.t⟩ : VrV) :: ms.drop P).length = ms.length + 1 := by
    have e : (ms.take P ++ ms.drop P).length = ms.length := by rw [List.take_append_drop]
    rw [List.length_append] at e
    rw [List.length_append, List.length_cons]; omega
  have hcv : cVr (ms.take P ++ (⟨v.m, v.c, v.o, A5, v.d, c5, v.g, v.t⟩ : VrV) :: ms.drop P) = (cVr ms).take (P * 6) ++ [.int .i64 v.m, .int .i64 v.c, .int .i64 v.o, .slice A5 v.d.length c5, .bool v.g, .int .i64 v.t] ++ (cVr ms).drop (P * 6) := by
    rw [cVr_app, cVr_cons, cVr_take, cVr_drop, List.append_assoc]; rfl
  have hg := H.at_.lt
  have q8 : Chg [gn] w7 (w7.setCell ⟨gn, 0, none⟩ (.slice A7 (ms.length + 1) c7)) := (Chg.refl _ _).setCell (.inl (by simp)) _
  have hA5 : ∀ j ∈ blk A5, w.heap.size ≤ j := fun j hj => Nat.le_trans hb (own_in hO j hj).1
  have ha7 : At w7 gn T #[.slice A ms.length c] := H.at_.keep h7 (by simp)
  refine ⟨⟨⟨?_, fun m hm => ?_⟩, ?_⟩, ?_, fun j hj => .inr (Nat.le_trans hb7 (own_in hown7 j hj).1), hA5⟩
  · rw [hlen, hcv]
    refine own_keep (own_base (base' := 0) hown7 (fun _ _ => Nat.zero_le _)) q8 (fun j hj hm => ?_)
    simp at hm
    subst hm
    exact own_at_ne hown7 ha7 hT.symm _ hj rfl
  · have hin : ∀ m ∈ ms, (w7.setCell ⟨gn, 0, none⟩ (.slice A7 (ms.length + 1) c7)).ownsRow 0 5 1 (.slice m.A m.val.length m.cp) m.val.length (cB m.val) := fun m hm => by
      have d7 := own_keep (H.dat m hm) h7 (fun _ _ hm => by simp at hm)
      refine own_keep d7 q8 (fun j hj hm => ?_)
      simp at hm
      subst hm
      exact own_at_ne d7 ha7 hT2.symm _ hj rfl
    rcases List.mem_append.1 hm with hm | hm
    · exact hin m (List.mem_of_mem_take hm)
    · rcases List.mem_cons.1 hm with rfl | hm
      · have d7 := own_base (base' := 0) hO (fun _ _ => Nat.zero_le _)
        refine own_keep d7 q8 (fun j hj hm => ?_)
        simp at hm
        subst hm
        exact own_at_ne d7 ha7 hT2.symm _ hj rfl
      · exact hin m (List.mem_of_mem_drop hm)
  · rw [hlen]
    have h := ha7.set_ 0 (.slice A7 (ms.length + 1) c7)
    simpa using h
  · exact (h7.mono (T := gn :: blk A) (fun _ h => by cases h)).trans q8 (fun x hx => .inl (by simp at hx; subst hx; exact List.mem_cons_self))
set_option maxRecDepth 100000 in
set_option maxHeartbeats 12800000 in
theorem putR_raw (w : World) (gn : Nat) (A : Option Addr) (c : Nat) (ms : List VrV) (H : ChP 55 gn A c ms w) (hn : ms.length ≤ 1000000) (hrise : Rise (ms.map VrV.v)) (xm xc xo : Int) (xA : Option Addr) (xp : Nat) (xg : Bool) (xt : Int) (xd : List UInt8) (hxr : Rd w 1 xA xd.length (cB xd)) (hxl : xd.length ≤ 1099511627776) :
    Calls Try.prog 16 #[.pointer (some ⟨gn, 0, none⟩), .agg #[.int .i64 xm, .int .i64 xc, .int .i64 xo, .slice xA xd.length xp, .bool xg, .int .i64 xt]] w (PutPost 55 gn A ms ⟨xm, xc, xo, xd, xg, xt⟩ w) := by
  obtain ⟨i1, hi1, hy0, hy1, hy2⟩ := info_parts info_ver
  have HX := Lib.hid (At.new w 28 #[.int .i64 xm, .int .i64 xc, .int .i64 xo, .slice xA xd.length xp, .bool xg, .int .i64 xt])
  have HQ := Lib.hid ((Chg.refl [] w).alloc (.cells #[.int .i64 xm, .int .i64 xc, .int .i64 xo, .slice xA xd.length xp, .bool xg, .int .i64 xt] 28))
  have HH := Lib.hid (H.keep HQ.out)
  have HXR := Lib.hid (hxr.keep0 HQ.out)
  have HRI := Lib.hid hrise
  clear hxr hrise
  cases hv : isVV ⟨xm, xc, xo, xd, xg, xt⟩
  · have hv' : isV xm xc xo xd xg xt = false := hv
    go_enter Try.func16, Try.ntmps16
    go_wp2_with (fail)
    refine (refVersion_any _ xm xc xo xA xd xp xg xt).mono ?_
    rintro e w1 ⟨rfl, hc1⟩
    rw [hv']
    go_wp2_with (fail)
    go_ret
    exact PutPost.bad hv (HQ.out.trans hc1 (by simp))
  have hv' : isV xm xc xo xd xg xt = true := hv
  go_enter Try.func16, Try.ntmps16
  go_wp2_with (fail)
  generalize hwz : w.alloc (.cells #[.int .i64 xm, .int .i64 xc, .int .i64 xo, .slice xA xd.length xp, .bool xg, .int .i64 xt] 28) = w0 at *
  generalize hgx : w.heap.size = gx at *
  refine (refVersion_any _ xm xc xo xA xd xp xg xt).mono ?_
  rintro e w1 ⟨rfl, hc1⟩
  rw [hv']
  have HX1 := Lib.hid (HX.out.keep hc1 (by simp))
  have HH1 := Lib.hid (HH.out.keep hc1)
  have HXR1 := Lib.hid (HXR.out.keep0 hc1)
  have HC1 := Lib.hid (HQ.out.trans hc1 (by simp))
  clear HX HH HXR HQ hc1 hwz hgx
  go_wp2_with (fail)
  go_loopw [5] (fun i wr => ∃ k : Nat, k ≤ ms.length ∧ i = .int .i64 k ∧ Hid (∀ j (h : j < ms.length), j < k → cmpV (ms[j]).v ⟨xm, xc, xo, xd, xg, xt⟩ < 0) ∧ Chg [] w1 wr) (fun i _ => ms.length - (intOf i).toNat)
  case atStart => exact ⟨0, Nat.zero_le _, rfl, (by intro j h hj; omega), Chg.refl _ _⟩
  case round =>
    obtain ⟨k, hk, rfl, HI, hch⟩ := hrel
    have HHr := Lib.hid (HH1.out.keep hch)
    have HXr := Lib.hid (HX1.out.keep hch (by simp))
    have HCr := Lib.hid hch
    clear hch
    by_cases hlt : k < ms.length
    · have hki : (k : Int) < (ms.length : Int) := by omega
      have hk0 : (0 : Int) ≤ (k : Int) := by omega
      obtain ⟨s, HS⟩ : ∃ s, Hid (cmpV (ms[k]).v ⟨xm, xc, xo, xd, xg, xt⟩ = s) := ⟨_, Lib.hid rfl⟩
      have HYes : Hid (s < 0 → ∀ j (h : j < ms.length), j < k + 1 → cmpV (ms[j]).v ⟨xm, xc, xo, xd, xg, xt⟩ < 0) := fun h1 j h hj => by
        by_cases e : j = k
        · subst e; rw [HS.out]; exact h1
        · exact HI.out j h (by omega)
      have HNo : Hid (¬ s < 0 → posV (ms.map VrV.v) ⟨xm, xc, xo, xd, xg, xt⟩ = k) := fun h1 => takeWhile_len _ (by rw [List.length_map]; omega) (fun j h hj => decide_eq_true (by rw [List.getElem_map]; exact HI.out j (by rwa [List.length_map] at h) hj)) (fun h => decide_eq_false (by rw [List.getElem_map, HS.out]; exact h1))
      have HB0 : Hid (¬ s < 0 → hasV (ms.map VrV.v) ⟨xm, xc, xo, xd, xg, xt⟩ = (s == 0)) := fun h1 => by
        have e := HNo.out h1
        rw [hasV_pos HRI.out, dif_pos (by rw [e, List.length_map]; exact hlt)]
        have e2 : (ms.map VrV.v)[posV (ms.map VrV.v) ⟨xm, xc, xo, xd, xg, xt⟩]'(by rw [e, List.length_map]; exact hlt) = (ms[k]).v := by simp only [e, List.getElem_map]
        rw [e2, HS.out]
      have HR := Lib.hid (Rd.of_own HHr.out.row)
      obtain ⟨ad, hAd, had, hc0, hc⟩ := HR.out.getV hlt
      have HAD := Lib.hid hAd
      clear hAd
      have hc1 := hc 1 _ (by omega) rfl
      have hc2 := hc 2 _ (by omega) rfl
      have hc3 := hc 3 _ (by omega) rfl
      have hc4 := hc 4 _ (by omega) rfl
      have hc5 := hc 5 _ (by omega) rfl
      clear HI HR hc
      generalize ms[k] = y at *
      obtain ⟨m, q, o, A', d, p, g, t⟩ := y
      simp only [VrV.v] at hc0 hc1 hc2 hc3 hc4 hc5 HS
      have KK : Hid (∀ w', Chg [] wr w' → w'.cell? ⟨gn, 0, none⟩ = some (.slice (some ad) ms.length c) ∧ w'.cell? (ad.add (k * 6)) = some (.int .i64 m) ∧ w'.cell? ⟨(ad.add (k * 6)).block, (ad.add (k * 6)).off + 1, none⟩ = some (.int .i64 q) ∧ w'.cell? ⟨(ad.add (k * 6)).block, (ad.add (k * 6)).off + 2, none⟩ = some (.int .i64 o) ∧ w'.cell? ⟨(ad.add (k * 6)).block, (ad.add (k * 6)).off + 3, none⟩ = some (.slice A' d.length p) ∧ w'.cell? ⟨(ad.add (k * 6)).block, (ad.add (k * 6)).off + 4, none⟩ = some (.bool g) ∧ w'.cell? ⟨(ad.add (k * 6)).block, (ad.add (k * 6)).off + 5, none⟩ = some (.int .i64 t) ∧ w'.cell? ⟨gx, 0, none⟩ = some (.int .i64 xm) ∧ w'.cell? ⟨gx, 1, none⟩ = some (.int .i64 xc) ∧ w'.cell? ⟨gx, 2, none⟩ = some (.int .i64 xo) ∧ w'.cell? ⟨gx, 3, none⟩ = some (.slice xA xd.length xp) ∧ w'.cell? ⟨gx, 4, none⟩ = some (.bool xg) ∧ w'.cell? ⟨gx, 5, none⟩ = some (.int .i64 xt)) := fun w' hc => ⟨by rw [← HAD.out]; exact (HHr.out.at_.keep hc (by simp)).cell 0, (hc.cell (by rw [add_block]; exact had) (by simp)).trans hc0, (hc.cell (p := ⟨(ad.add (k * 6)).block, (ad.add (k * 6)).off + 1, none⟩) (by show (ad.add (k * 6)).block < _; rw [add_block]; exact had) (by simp)).trans hc1, (hc.cell (p := ⟨(ad.add (k * 6)).block, (ad.add (k * 6)).off + 2, none⟩) (by show (ad.add (k * 6)).block < _; rw [add_block]; exact had) (by simp)).trans hc2, (hc.cell (p := ⟨(ad.add (k * 6)).block, (ad.add (k * 6)).off + 3, none⟩) (by show (ad.add (k * 6)).block < _; rw [add_block]; exact had) (by simp)).trans hc3, (hc.cell (p := ⟨(ad.add (k * 6)).block, (ad.add (k * 6)).off + 4, none⟩) (by show (ad.add (k * 6)).block < _; rw [add_block]; exact had) (by simp)).trans hc4, (hc.cell (p := ⟨(ad.add (k * 6)).block, (ad.add (k * 6)).off + 5, none⟩) (by show (ad.add (k * 6)).block < _; rw [add_block]; exact had) (by simp)).trans hc5, (HXr.out.keep hc (by simp)).cell 0, (HXr.out.keep hc (by simp)).cell 1, (HXr.out.keep hc (by simp)).cell 2, (HXr.out.keep hc (by simp)).cell 3, (HXr.out.keep hc (by simp)).cell 4, (HXr.out.keep hc (by simp)).cell 5⟩
      clear hc0 hc1 hc2 hc3 hc4 hc5
      go_upto_region 4 with (fail)
      by_cases hs : s < 0
      · have hb0 : decide (s < 0) = true := decide_eq_true hs
        have HYs := Lib.hid (HYes.out hs)
        clear HYes HNo HB0
        refine wp_region_held_drew (S := fun w' => w'.cell? ⟨gn, 0, none⟩ = some (.slice (some ad) ms.length c) ∧ w'.cell? (ad.add (k * 6)) = some (.int .i64 m) ∧ w'.cell? ⟨(ad.add (k * 6)).block, (ad.add (k * 6)).off + 1, none⟩ = some (.int .i64 q) ∧ w'.cell? ⟨(ad.add (k * 6)).block, (ad.add (k * 6)).off + 2, none⟩ = some (.int .i64 o) ∧ w'.cell? ⟨(ad.add (k * 6)).block, (ad.add (k * 6)).off + 3, none⟩ = some (.slice A' d.length p) ∧ w'.cell? ⟨(ad.add (k * 6)).block, (ad.add (k * 6)).off + 4, none⟩ = some (.bool g) ∧ w'.cell? ⟨(ad.add (k * 6)).block, (ad.add (k * 6)).off + 5, none⟩ = some (.int .i64 t) ∧ w'.cell? ⟨gx, 0, none⟩ = some (.int .i64 xm) ∧ w'.cell? ⟨gx, 1, none⟩ = some (.int .i64 xc) ∧ w'.cell? ⟨gx, 2, none⟩ = some (.int .i64 xo) ∧ w'.cell? ⟨gx, 3, none⟩ = some (.slice xA xd.length xp) ∧ w'.cell? ⟨gx, 4, none⟩ = some (.bool xg) ∧ w'.cell? ⟨gx, 5, none⟩ = some (.int .i64 xt)) (by kernel_rfl) ?_ (fun hHeld => ?_)
        · exact KK.out _ ((Chg.refl [] wr).drewN 1)
        refine takeW (i := 0) (d := (some 10)) (v := ?_) rfl rfl (by kernel_rfl) (by kernel_rfl) (by kernel_rfl) (fun _ _ _ h => h) (by rfl) ?_ (by assumption) ?_
        rotate_left
        · intro w' hSw; (try dsimp only at hSw); go_simp; try with_reducible rfl
        try simp only [Act.put, List.setIfInBounds_toArray, List.set_cons_zero, List.set_cons_succ]
        refine takeW (i := 1) (d := (some 11)) (v := ?_) rfl rfl (by kernel_rfl) (by kernel_rfl) (by kernel_rfl) (fun _ _ _ h => h) (by rfl) ?_ (by assumption) ?_
        rotate_left
        · intro w' hSw; (try dsimp only at hSw); go_simp; try with_reducible rfl
        try simp only [Act.put, List.setIfInBounds_toArray, List.set_cons_zero, List.set_cons_succ]
        refine takeW (i := 2) (d := (some 12)) (v := ?_) rfl rfl (by kernel_rfl) (by kernel_rfl) (by kernel_rfl) (fun _ _ _ h => h) (by rfl) ?_ (by assumption) ?_
        rotate_left
        · intro w' hSw; (try dsimp only at hSw); go_simp; try with_reducible rfl
        try simp only [Act.put, List.setIfInBounds_toArray, List.set_cons_zero, List.set_cons_succ]
        refine takeW (i := 3) (d := (some 13)) (v := ?_) rfl rfl (by kernel_rfl) (by kernel_rfl) (by kernel_rfl) (fun _ _ _ h => h) (by rfl) ?_ (by assumption) ?_
        rotate_left
        · intro w' hSw; (try dsimp only at hSw); go_simp; try with_reducible rfl
        try simp only [Act.put, List.setIfInBounds_toArray, List.set_cons_zero, List.set_cons_succ]
        refine takeW (i := 4) (d := (some 14)) (v := ?_) rfl rfl (by kernel_rfl) (by kernel_rfl) (by kernel_rfl) (fun _ _ _ h => h) (by rfl) ?_ (by assumption) ?_
        rotate_left
        · intro w' hSw; (try dsimp only at hSw); go_simp; try with_reducible rfl
        try simp only [Act.put, List.setIfInBounds_toArray, List.set_cons_zero, List.set_cons_succ]
        refine takeW (i := 5) (d := (some 15)) (v := ?_) rfl rfl (by kernel_rfl) (by kernel_rfl) (by kernel_rfl) (fun _ _ _ h => h) (by rfl) ?_ (by assumption) ?_
        rotate_left
        · intro w' hSw; (try dsimp only at hSw); go_simp; try with_reducible rfl
        try simp only [Act.put, List.setIfInBounds_toArray, List.set_cons_zero, List.set_cons_succ]
        refine takeW (i := 6) (d := (some 16)) (v := ?_) rfl rfl (by kernel_rfl) (by kernel_rfl) (by kernel_rfl) (fun _ _ _ h => h) (by rfl) ?_ (by assumption) ?_
        rotate_left
        · intro w' hSw; (try dsimp only at hSw); go_simp; try with_reducible rfl
        try simp only [Act.put, List.setIfInBounds_toArray, List.set_cons_zero, List.set_cons_succ]
        refine takeW (i := 7) (d := (some 17)) (v := ?_) rfl rfl (by kernel_rfl) (by kernel_rfl) (by kernel_rfl) (fun _ _ _ h => h) (by rfl) ?_ (by assumption) ?_
        rotate_left
        · intro w' hSw; (try dsimp only at hSw); go_simp; try with_reducible rfl
        try simp only [Act.put, List.setIfInBounds_toArray, List.set_cons_zero, List.set_cons_succ]
        refine takeW (i := 8) (d := (some 18)) (v := ?_) rfl rfl (by kernel_rfl) (by kernel_rfl) (by kernel_rfl) (fun _ _ _ h => h) (by rfl) ?_ (by assumption) ?_
        rotate_left
        · intro w' hSw; (try dsimp only at hSw); go_simp; try with_reducible rfl
        try simp only [Act.put, List.setIfInBounds_toArray, List.set_cons_zero, List.set_cons_succ]
        refine takeW (i := 9) (d := (some 19)) (v := ?_) rfl rfl (by kernel_rfl) (by kernel_rfl) (by kernel_rfl) (fun _ _ _ h => h) (by rfl) ?_ (by assumption) ?_
        rotate_left
        · intro w' hSw; (try dsimp only at hSw); go_simp; try with_reducible rfl
        try simp only [Act.put, List.setIfInBounds_toArray, List.set_cons_zero, List.set_cons_succ]
        refine takeW (i := 10) (d := (some 20)) (v := ?_) rfl rfl (by kernel_rfl) (by kernel_rfl) (by kernel_rfl) (fun _ _ _ h => h) (by rfl) ?_ (by assumption) ?_
        rotate_left
        · intro w' hSw; (try dsimp only at hSw); go_simp; try with_reducible rfl
        try simp only [Act.put, List.setIfInBounds_toArray, List.set_cons_zero, List.set_cons_succ]
        refine takeW (i := 11) (d := (some 21)) (v := ?_) rfl rfl (by kernel_rfl) (by kernel_rfl) (by kernel_rfl) (fun _ _ _ h => h) (by rfl) ?_ (by assumption) ?_
        rotate_left
        · intro w' hSw; (try dsimp only at hSw); go_simp; try with_reducible rfl
        try simp only [Act.put, List.setIfInBounds_toArray, List.set_cons_zero, List.set_cons_succ]
        refine takeW (i := 12) (d := (some 22)) (v := ?_) rfl rfl (by kernel_rfl) (by kernel_rfl) (by kernel_rfl) (fun _ _ _ h => h) (by rfl) ?_ (by assumption) ?_
        rotate_left
        · intro w' hSw; (try dsimp only at hSw); go_simp; try with_reducible rfl
        try simp only [Act.put, List.setIfInBounds_toArray, List.set_cons_zero, List.set_cons_succ]
        refine takeW (i := 13) (d := (some 23)) (v := ?_) rfl rfl (by kernel_rfl) (by kernel_rfl) (by kernel_rfl) (fun _ _ _ h => h) (by rfl) ?_ (by assumption) ?_
        rotate_left
        · intro w' hSw; (try dsimp only at hSw); go_simp; try with_reducible rfl
        try simp only [Act.put, List.setIfInBounds_toArray, List.set_cons_zero, List.set_cons_succ]
        refine takeW (i := 14) (d := (some 24)) (v := ?_) rfl rfl (by kernel_rfl) (by kernel_rfl) (by kernel_rfl) (fun _ _ _ h => h) (by rfl) ?_ (by assumption) ?_
        rotate_left
        · intro w' hSw; (try dsimp only at hSw); go_simp; try with_reducible rfl
        try simp only [Act.put, List.setIfInBounds_toArray, List.set_cons_zero, List.set_cons_succ]
        refine takeW (i := 15) (d := (some 25)) (v := ?_) rfl rfl (by kernel_rfl) (by kernel_rfl) (by kernel_rfl) (fun _ _ _ h => h) (by rfl) ?_ (by assumption) ?_
        rotate_left
        · intro w' hSw; (try dsimp only at hSw); go_simp; try with_reducible rfl
        try simp only [Act.put, List.setIfInBounds_toArray, List.set_cons_zero, List.set_cons_succ]
        refine wpAnyH_ready (rs := [16]) (by kernel_rfl) (by simp) ?_
        refine AllReadyH.cons rfl (fun K hK => ?_) AllReadyH.nil
        go_simp
        go_at_call 37
        (with_reducible refine (refOrder_any _ m q o A' d.length p g t xm xc xo xA xd.length xp xg xt d xd).mono ?_)
        rintro e w3 ⟨rfl, hch3⟩
        rw [HS.out]
        have hch23 : Hid (Chg [] wr w3) := ((by repeat' (first | (with_reducible assumption) | (with_reducible exact Chg.refl _ _) | (with_reducible refine Chg.alloc ?_ _) | (with_reducible refine Chg.drewN ?_ _) | (with_reducible refine Chg.drew ?_) | (with_reducible refine Chg.strW ?_ _ _) | (with_reducible refine Chg.t0 ?_ (by with_reducible assumption)))) : Chg [] wr w3)
        go_wp2_with (fail)
        refine hK.out _ _ ?_ (fun hHeld => ?_)
        · first | exact KK.out _ hch23.out | (dsimp only; exact KK.out _ hch23.out)
        clear hK K
        try simp only [Act.put, List.setIfInBounds_toArray, List.set_cons_zero, List.set_cons_succ]
        refine takeW (i := 17) (d := (some 27)) (v := ?_) rfl rfl (by kernel_rfl) (by kernel_rfl) (by kernel_rfl) (fun _ _ _ h => h) (by rfl) ?_ (by assumption) ?_
        rotate_left
        · intro w' hSw; (try dsimp only at hSw); go_simp; try with_reducible rfl
        try simp only [Act.put, List.setIfInBounds_toArray, List.set_cons_zero, List.set_cons_succ]
        refine takeW (i := 18) (d := (some 28)) (v := ?_) rfl rfl (by kernel_rfl) (by kernel_rfl) (by kernel_rfl) (fun _ _ _ h => h) (by rfl) ?_ (by assumption) ?_
        rotate_left
        · intro w' hSw; (try dsimp only at hSw); go_simp; try with_reducible rfl
        try simp only [Act.put, List.setIfInBounds_toArray, List.set_cons_zero, List.set_cons_succ]
        refine wpAnyH_done (by kernel_rfl) ?_ _
        have HCn := Lib.hid (HCr.out.trans hch23.out (by simp))
        clear hch23 hch3 KK
        go_wp2_with (fail)
        go_roundw
        case rel => exact ⟨k + 1, by omega, by go_num, HYs.out, HCn.out⟩
        case measure => simp [intOf]; omega
      · have hb0 : decide (s < 0) = false := decide_eq_false hs
        have HP := Lib.hid (HNo.out hs)
        have HB9 := Lib.hid (HB0.out hs)
        clear HYes HNo HB0
        refine wp_region_held_drew (S := fun w' => w'.cell? ⟨gn, 0, none⟩ = some (.slice (some ad) ms.length c) ∧ w'.cell? (ad.add (k * 6)) = some (.int .i64 m) ∧ w'.cell? ⟨(ad.add (k * 6)).block, (ad.add (k * 6)).off + 1, none⟩ = some (.int .i64 q) ∧ w'.cell? ⟨(ad.add (k * 6)).block, (ad.add (k * 6)).off + 2, none⟩ = some (.int .i64 o) ∧ w'.cell? ⟨(ad.add (k * 6)).block, (ad.add (k * 6)).off + 3, none⟩ = some (.slice A' d.length p) ∧ w'.cell? ⟨(ad.add (k * 6)).block, (ad.add (k * 6)).off + 4, none⟩ = some (.bool g) ∧ w'.cell? ⟨(ad.add (k * 6)).block, (ad.add (k * 6)).off + 5, none⟩ = some (.int .i64 t) ∧ w'.cell? ⟨gx, 0, none⟩ = some (.int .i64 xm) ∧ w'.cell? ⟨gx, 1, none⟩ = some (.int .i64 xc) ∧ w'.cell? ⟨gx, 2, none⟩ = some (.int .i64 xo) ∧ w'.cell? ⟨gx, 3, none⟩ = some (.slice xA xd.length xp) ∧ w'.cell? ⟨gx, 4, none⟩ = some (.bool xg) ∧ w'.cell? ⟨gx, 5, none⟩ = some (.int .i64 xt)) (by kernel_rfl) ?_ (fun hHeld => ?_)
        · exact KK.out _ ((Chg.refl [] wr).drewN 1)
        refine takeW (i := 0) (d := (some 10)) (v := ?_) rfl rfl (by kernel_rfl) (by kernel_rfl) (by kernel_rfl) (fun _ _ _ h => h) (by rfl) ?_ (by assumption) ?_
        rotate_left
        · intro w' hSw; (try dsimp only at hSw); go_simp; try with_reducible rfl
        try simp only [Act.put, List.setIfInBounds_toArray, List.set_cons_zero, List.set_cons_succ]
        refine takeW (i := 1) (d := (some 11)) (v := ?_) rfl rfl (by kernel_rfl) (by kernel_rfl) (by kernel_rfl) (fun _ _ _ h => h) (by rfl) ?_ (by assumption) ?_
        rotate_left
        · intro w' hSw; (try dsimp only at hSw); go_simp; try with_reducible rfl
        try simp only [Act.put, List.setIfInBounds_toArray, List.set_cons_zero, List.set_cons_succ]
        refine takeW (i := 2) (d := (some 12)) (v := ?_) rfl rfl (by kernel_rfl) (by kernel_rfl) (by kernel_rfl) (fun _ _ _ h => h) (by rfl) ?_ (by assumption) ?_
        rotate_left
        · intro w' hSw; (try dsimp only at hSw); go_simp; try with_reducible rfl
        try simp only [Act.put, List.setIfInBounds_toArray, List.set_cons_zero, List.set_cons_succ]
        refine takeW (i := 3) (d := (some 13)) (v := ?_) rfl rfl (by kernel_rfl) (by kernel_rfl) (by kernel_rfl) (fun _ _ _ h => h) (by rfl) ?_ (by assumption) ?_
        rotate_left
        · intro w' hSw; (try dsimp only at hSw); go_simp; try with_reducible rfl
        try simp only [Act.put, List.setIfInBounds_toArray, List.set_cons_zero, List.set_cons_succ]
        refine takeW (i := 4) (d := (some 14)) (v := ?_) rfl rfl (by kernel_rfl) (by kernel_rfl) (by kernel_rfl) (fun _ _ _ h => h) (by rfl) ?_ (by assumption) ?_
        rotate_left
        · intro w' hSw; (try dsimp only at hSw); go_simp; try with_reducible rfl
        try simp only [Act.put, List.setIfInBounds_toArray, List.set_cons_zero, List.set_cons_succ]
        refine takeW (i := 5) (d := (some 15)) (v := ?_) rfl rfl (by kernel_rfl) (by kernel_rfl) (by kernel_rfl) (fun _ _ _ h => h) (by rfl) ?_ (by assumption) ?_
        rotate_left
        · intro w' hSw; (try dsimp only at hSw); go_simp; try with_reducible rfl
        try simp only [Act.put, List.setIfInBounds_toArray, List.set_cons_zero, List.set_cons_succ]
        refine takeW (i := 6) (d := (some 16)) (v := ?_) rfl rfl (by kernel_rfl) (by kernel_rfl) (by kernel_rfl) (fun _ _ _ h => h) (by rfl) ?_ (by assumption) ?_
        rotate_left
        · intro w' hSw; (try dsimp only at hSw); go_simp; try with_reducible rfl
        try simp only [Act.put, List.setIfInBounds_toArray, List.set_cons_zero, List.set_cons_succ]
        refine takeW (i := 7) (d := (some 17)) (v := ?_) rfl rfl (by kernel_rfl) (by kernel_rfl) (by kernel_rfl) (fun _ _ _ h => h) (by rfl) ?_ (by assumption) ?_
        rotate_left
        · intro w' hSw; (try dsimp only at hSw); go_simp; try with_reducible rfl
        try simp only [Act.put, List.setIfInBounds_toArray, List.set_cons_zero, List.set_cons_succ]
        refine takeW (i := 8) (d := (some 18)) (v := ?_) rfl rfl (by kernel_rfl) (by kernel_rfl) (by kernel_rfl) (fun _ _ _ h => h) (by rfl) ?_ (by assumption) ?_
        rotate_left
        · intro w' hSw; (try dsimp only at hSw); go_simp; try with_reducible rfl
        try simp only [Act.put, List.setIfInBounds_toArray, List.set_cons_zero, List.set_cons_succ]
        refine takeW (i := 9) (d := (some 19)) (v := ?_) rfl rfl (by kernel_rfl) (by kernel_rfl) (by kernel_rfl) (fun _ _ _ h => h) (by rfl) ?_ (by assumption) ?_
        rotate_left
        · intro w' hSw; (try dsimp only at hSw); go_simp; try with_reducible rfl
        try simp only [Act.put, List.setIfInBounds_toArray, List.set_cons_zero, List.set_cons_succ]
        refine takeW (i := 10) (d := (some 20)) (v := ?_) rfl rfl (by kernel_rfl) (by kernel_rfl) (by kernel_rfl) (fun _ _ _ h => h) (by rfl) ?_ (by assumption) ?_
        rotate_left
        · intro w' hSw; (try dsimp only at hSw); go_simp; try with_reducible rfl
        try simp only [Act.put, List.setIfInBounds_toArray, List.set_cons_zero, List.set_cons_succ]
        refine takeW (i := 11) (d := (some 21)) (v := ?_) rfl rfl (by kernel_rfl) (by kernel_rfl) (by kernel_rfl) (fun _ _ _ h => h) (by rfl) ?_ (by assumption) ?_
        rotate_left
        · intro w' hSw; (try dsimp only at hSw); go_simp; try with_reducible rfl
        try simp only [Act.put, List.setIfInBounds_toArray, List.set_cons_zero, List.set_cons_succ]
        refine takeW (i := 12) (d := (some 22)) (v := ?_) rfl rfl (by kernel_rfl) (by kernel_rfl) (by kernel_rfl) (fun _ _ _ h => h) (by rfl) ?_ (by assumption) ?_
        rotate_left
        · intro w' hSw; (try dsimp only at hSw); go_simp; try with_reducible rfl
        try simp only [Act.put, List.setIfInBounds_toArray, List.set_cons_zero, List.set_cons_succ]
        refine takeW (i := 13) (d := (some 23)) (v := ?_) rfl rfl (by kernel_rfl) (by kernel_rfl) (by kernel_rfl) (fun _ _ _ h => h) (by rfl) ?_ (by assumption) ?_
        rotate_left
        · intro w' hSw; (try dsimp only at hSw); go_simp; try with_reducible rfl
        try simp only [Act.put, List.setIfInBounds_toArray, List.set_cons_zero, List.set_cons_succ]
        refine takeW (i := 14) (d := (some 24)) (v := ?_) rfl rfl (by kernel_rfl) (by kernel_rfl) (by kernel_rfl) (fun _ _ _ h => h) (by rfl) ?_ (by assumption) ?_
        rotate_left
        · intro w' hSw; (try dsimp only at hSw); go_simp; try with_reducible rfl
        try simp only [Act.put, List.setIfInBounds_toArray, List.set_cons_zero, List.set_cons_succ]
        refine takeW (i := 15) (d := (some 25)) (v := ?_) rfl rfl (by kernel_rfl) (by kernel_rfl) (by kernel_rfl) (fun _ _ _ h => h) (by rfl) ?_ (by assumption) ?_
        rotate_left
        · intro w' hSw; (try dsimp only at hSw); go_simp; try with_reducible rfl
        try simp only [Act.put, List.setIfInBounds_toArray, List.set_cons_zero, List.set_cons_succ]
        refine wpAnyH_ready (rs := [16]) (by kernel_rfl) (by simp) ?_
        refine AllReadyH.cons rfl (fun K hK => ?_) AllReadyH.nil
        go_simp
        go_at_call 37
        (with_reducible refine (refOrder_any _ m q o A' d.length p g t xm xc xo xA xd.length xp xg xt d xd).mono ?_)
        rintro e w3 ⟨rfl, hch3⟩
        rw [HS.out]
        have hch23 : Hid (Chg [] wr w3) := ((by repeat' (first | (with_reducible assumption) | (with_reducible exact Chg.refl _ _) | (with_reducible refine Chg.alloc ?_ _) | (with_reducible refine Chg.drewN ?_ _) | (with_reducible refine Chg.drew ?_) | (with_reducible refine Chg.strW ?_ _ _) | (with_reducible refine Chg.t0 ?_ (by with_reducible assumption)))) : Chg [] wr w3)
        go_wp2_with (fail)
        refine hK.out _ _ ?_ (fun hHeld => ?_)
        · first | exact KK.out _ hch23.out | (dsimp only; exact KK.out _ hch23.out)
        clear hK K
        try simp only [Act.put, List.setIfInBounds_toArray, List.set_cons_zero, List.set_cons_succ]
        refine takeW (i := 17) (d := (some 27)) (v := ?_) rfl rfl (by kernel_rfl) (by kernel_rfl) (by kernel_rfl) (fun _ _ _ h => h) (by rfl) ?_ (by assumption) ?_
        rotate_left
        · intro w' hSw; (try dsimp only at hSw); go_simp; try with_reducible rfl
        try simp only [Act.put, List.setIfInBounds_toArray, List.set_cons_zero, List.set_cons_succ]
        refine takeW (i := 18) (d := (some 28)) (v := ?_) rfl rfl (by kernel_rfl) (by kernel_rfl) (by kernel_rfl) (fun _ _ _ h => h) (by rfl) ?_ (by assumption) ?_
        rotate_left
        · intro w' hSw; (try dsimp only at hSw); go_simp; try with_reducible rfl
        try simp only [Act.put, List.setIfInBounds_toArray, List.set_cons_zero, List.set_cons_succ]
        refine wpAnyH_done (by kernel_rfl) ?_ _
        have H23 := hch23.out
        have HC3 := Lib.hid (HCr.out.trans H23 (by simp))
        clear hch23 hch3
        have K6 : Hid (∀ w', Chg [] w3 w' → w'.cell? ⟨gn, 0, none⟩ = some (.slice (some ad) ms.length c) ∧ w'.cell? (ad.add (k * 6)) = some (.int .i64 m) ∧ w'.cell? ⟨(ad.add (k * 6)).block, (ad.add (k * 6)).off + 1, none⟩ = some (.int .i64 q) ∧ w'.cell? ⟨(ad.add (k * 6)).block, (ad.add (k * 6)).off + 2, none⟩ = some (.int .i64 o) ∧ w'.cell? ⟨(ad.add (k * 6)).block, (ad.add (k * 6)).off + 3, none⟩ = some (.slice A' d.length p) ∧ w'.cell? ⟨(ad.add (k * 6)).block, (ad.add (k * 6)).off + 4, none⟩ = some (.bool g) ∧ w'.cell? ⟨(ad.add (k * 6)).block, (ad.add (k * 6)).off + 5, none⟩ = some (.int .i64 t) ∧ w'.cell? ⟨gx, 0, none⟩ = some (.int .i64 xm) ∧ w'.cell? ⟨gx, 1, none⟩ = some (.int .i64 xc) ∧ w'.cell? ⟨gx, 2, none⟩ = some (.int .i64 xo) ∧ w'.cell? ⟨gx, 3, none⟩ = some (.slice xA xd.length xp) ∧ w'.cell? ⟨gx, 4, none⟩ = some (.bool xg) ∧ w'.cell? ⟨gx, 5, none⟩ = some (.int .i64 xt)) := fun w' hc => KK.out _ (H23.trans hc (by simp))
        clear KK H23
        go_upto_region 6 with (fail)
        by_cases hs0 : s = 0
        · have hs1 : (s == 0) = true := by rw [hs0]; rfl
          have HB : Hid (hasV (ms.map VrV.v) ⟨xm, xc, xo, xd, xg, xt⟩ = true) := HB9.out.trans hs1
          clear hs0 hs HB9 HP hb0
          refine wp_region_held_drew (S := fun w' => w'.cell? ⟨gn, 0, none⟩ = some (.slice (some ad) ms.length c) ∧ w'.cell? (ad.add (k * 6)) = some (.int .i64 m) ∧ w'.cell? ⟨(ad.add (k * 6)).block, (ad.add (k * 6)).off + 1, none⟩ = some (.int .i64 q) ∧ w'.cell? ⟨(ad.add (k * 6)).block, (ad.add (k * 6)).off + 2, none⟩ = some (.int .i64 o) ∧ w'.cell? ⟨(ad.add (k * 6)).block, (ad.add (k * 6)).off + 3, none⟩ = some (.slice A' d.length p) ∧ w'.cell? ⟨(ad.add (k * 6)).block, (ad.add (k * 6)).off + 4, none⟩ = some (.bool g) ∧ w'.cell? ⟨(ad.add (k * 6)).block, (ad.add (k * 6)).off + 5, none⟩ = some (.int .i64 t) ∧ w'.cell? ⟨gx, 0, none⟩ = some (.int .i64 xm) ∧ w'.cell? ⟨gx, 1, none⟩ = some (.int .i64 xc) ∧ w'.cell? ⟨gx, 2, none⟩ = some (.int .i64 xo) ∧ w'.cell? ⟨gx, 3, none⟩ = some (.slice xA xd.length xp) ∧ w'.cell? ⟨gx, 4, none⟩ = some (.bool xg) ∧ w'.cell? ⟨gx, 5, none⟩ = some (.int .i64 xt)) (by kernel_rfl) ?_ (fun hHeld => ?_)
          · exact K6.out _ ((Chg.refl [] w3).drewN 1)
          refine takeW (i := 0) (d := (some 31)) (v := ?_) rfl rfl (by kernel_rfl) (by kernel_rfl) (by kernel_rfl) (fun _ _ _ h => h) (by rfl) ?_ (by assumption) ?_
          rotate_left
          · intro w' hSw; (try dsimp only at hSw); go_simp; try with_reducible rfl
          try simp only [Act.put, List.setIfInBounds_toArray, List.set_cons_zero, List.set_cons_succ]
          refine takeW (i := 1) (d := (some 32)) (v := ?_) rfl rfl (by kernel_rfl) (by kernel_rfl) (by kernel_rfl) (fun _ _ _ h => h) (by rfl) ?_ (by assumption) ?_
          rotate_left
          · intro w' hSw; (try dsimp only at hSw); go_simp; try with_reducible rfl
          try simp only [Act.put, List.setIfInBounds_toArray, List.set_cons_zero, List.set_cons_succ]
          refine takeW (i := 2) (d := (some 33)) (v := ?_) rfl rfl (by kernel_rfl) (by kernel_rfl) (by kernel_rfl) (fun _ _ _ h => h) (by rfl) ?_ (by assumption) ?_
          rotate_left
          · intro w' hSw; (try dsimp only at hSw); go_simp; try with_reducible rfl
          try simp only [Act.put, List.setIfInBounds_toArray, List.set_cons_zero, List.set_cons_succ]
          refine takeW (i := 3) (d := (some 34)) (v := ?_) rfl rfl (by kernel_rfl) (by kernel_rfl) (by kernel_rfl) (fun _ _ _ h => h) (by rfl) ?_ (by assumption) ?_
          rotate_left
          · intro w' hSw; (try dsimp only at hSw); go_simp; try with_reducible rfl
          try simp only [Act.put, List.setIfInBounds_toArray, List.set_cons_zero, List.set_cons_succ]
          refine takeW (i := 4) (d := (some 35)) (v := ?_) rfl rfl (by kernel_rfl) (by kernel_rfl) (by kernel_rfl) (fun _ _ _ h => h) (by rfl) ?_ (by assumption) ?_
          rotate_left
          · intro w' hSw; (try dsimp only at hSw); go_simp; try with_reducible rfl
          try simp only [Act.put, List.setIfInBounds_toArray, List.set_cons_zero, List.set_cons_succ]
          refine takeW (i := 5) (d := (some 36)) (v := ?_) rfl rfl (by kernel_rfl) (by kernel_rfl) (by kernel_rfl) (fun _ _ _ h => h) (by rfl) ?_ (by assumption) ?_
          rotate_left
          · intro w' hSw; (try dsimp only at hSw); go_simp; try with_reducible rfl
          try simp only [Act.put, List.setIfInBounds_toArray, List.set_cons_zero, List.set_cons_succ]
          refine takeW (i := 6) (d := (some 37)) (v := ?_) rfl rfl (by kernel_rfl) (by kernel_rfl) (by kernel_rfl) (fun _ _ _ h => h) (by rfl) ?_ (by assumption) ?_
          rotate_left
          · intro w' hSw; (try dsimp only at hSw); go_simp; try with_reducible rfl
          try simp only [Act.put, List.setIfInBounds_toArray, List.set_cons_zero, List.set_cons_succ]
          refine takeW (i := 7) (d := (some 38)) (v := ?_) rfl rfl (by kernel_rfl) (by kernel_rfl) (by kernel_rfl) (fun _ _ _ h => h) (by rfl) ?_ (by assumption) ?_
          rotate_left
          · intro w' hSw; (try dsimp only at hSw); go_simp; try with_reducible rfl
          try simp only [Act.put, List.setIfInBounds_toArray, List.set_cons_zero, List.set_cons_succ]
          refine takeW (i := 8) (d := (some 39)) (v := ?_) rfl rfl (by kernel_rfl) (by kernel_rfl) (by kernel_rfl) (fun _ _ _ h => h) (by rfl) ?_ (by assumption) ?_
          rotate_left
          · intro w' hSw; (try dsimp only at hSw); go_simp; try with_reducible rfl
          try simp only [Act.put, List.setIfInBounds_toArray, List.set_cons_zero, List.set_cons_succ]
          refine takeW (i := 9) (d := (some 40)) (v := ?_) rfl rfl (by kernel_rfl) (by kernel_rfl) (by kernel_rfl) (fun _ _ _ h => h) (by rfl) ?_ (by assumption) ?_
          rotate_left
          · intro w' hSw; (try dsimp only at hSw); go_simp; try with_reducible rfl
          try simp only [Act.put, List.setIfInBounds_toArray, List.set_cons_zero, List.set_cons_succ]
          refine takeW (i := 10) (d := (some 41)) (v := ?_) rfl rfl (by kernel_rfl) (by kernel_rfl) (by kernel_rfl) (fun _ _ _ h => h) (by rfl) ?_ (by assumption) ?_
          rotate_left
          · intro w' hSw; (try dsimp only at hSw); go_simp; try with_reducible rfl
          try simp only [Act.put, List.setIfInBounds_toArray, List.set_cons_zero, List.set_cons_succ]
          refine takeW (i := 11) (d := (some 42)) (v := ?_) rfl rfl (by kernel_rfl) (by kernel_rfl) (by kernel_rfl) (fun _ _ _ h => h) (by rfl) ?_ (by assumption) ?_
          rotate_left
          · intro w' hSw; (try dsimp only at hSw); go_simp; try with_reducible rfl
          try simp only [Act.put, List.setIfInBounds_toArray, List.set_cons_zero, List.set_cons_succ]
          refine takeW (i := 12) (d := (some 43)) (v := ?_) rfl rfl (by kernel_rfl) (by kernel_rfl) (by kernel_rfl) (fun _ _ _ h => h) (by rfl) ?_ (by assumption) ?_
          rotate_left
          · intro w' hSw; (try dsimp only at hSw); go_simp; try with_reducible rfl
          try simp only [Act.put, List.setIfInBounds_toArray, List.set_cons_zero, List.set_cons_succ]
          refine takeW (i := 13) (d := (some 44)) (v := ?_) rfl rfl (by kernel_rfl) (by kernel_rfl) (by kernel_rfl) (fun _ _ _ h => h) (by rfl) ?_ (by assumption) ?_
          rotate_left
          · intro w' hSw; (try dsimp only at hSw); go_simp; try with_reducible rfl
          try simp only [Act.put, List.setIfInBounds_toArray, List.set_cons_zero, List.set_cons_succ]
          refine takeW (i := 14) (d := (some 45)) (v := ?_) rfl rfl (by kernel_rfl) (by kernel_rfl) (by kernel_rfl) (fun _ _ _ h => h) (by rfl) ?_ (by assumption) ?_
          rotate_left
          · intro w' hSw; (try dsimp only at hSw); go_simp; try with_reducible rfl
          try simp only [Act.put, List.setIfInBounds_toArray, List.set_cons_zero, List.set_cons_succ]
          refine takeW (i := 15) (d := (some 46)) (v := ?_) rfl rfl (by kernel_rfl) (by kernel_rfl) (by kernel_rfl) (fun _ _ _ h => h) (by rfl) ?_ (by assumption) ?_
          rotate_left
          · intro w' hSw; (try dsimp only at hSw); go_simp; try with_reducible rfl
          try simp only [Act.put, List.setIfInBounds_toArray, List.set_cons_zero, List.set_cons_succ]
          refine wpAnyH_ready (rs := [16]) (by kernel_rfl) (by simp) ?_
          refine AllReadyH.cons rfl (fun K hK => ?_) AllReadyH.nil
          go_simp
          go_at_call 37
          (with_reducible refine (refOrder_any _ m q o A' d.length p g t xm xc xo xA xd.length xp xg xt d xd).mono ?_)
          rintro e w4 ⟨rfl, hch4⟩
          rw [HS.out]
          have hch23 : Hid (Chg [] w3 w4) := ((by repeat' (first | (with_reducible assumption) | (with_reducible exact Chg.refl _ _) | (with_reducible refine Chg.alloc ?_ _) | (with_reducible refine Chg.drewN ?_ _) | (with_reducible refine Chg.drew ?_) | (with_reducible refine Chg.strW ?_ _ _) | (with_reducible refine Chg.t0 ?_ (by with_reducible assumption)))) : Chg [] w3 w4)
          go_wp2_with (fail)
          refine hK.out _ _ ?_ (fun hHeld => ?_)
          · first | exact K6.out _ hch23.out | (dsimp only; exact K6.out _ hch23.out)
          clear hK K
          try simp only [Act.put, List.setIfInBounds_toArray, List.set_cons_zero, List.set_cons_succ]
          refine takeW (i := 17) (d := (some 48)) (v := ?_) rfl rfl (by kernel_rfl) (by kernel_rfl) (by kernel_rfl) (fun _ _ _ h => h) (by rfl) ?_ (by assumption) ?_
          rotate_left
          · intro w' hSw; (try dsimp only at hSw); go_simp; try with_reducible rfl
          try simp only [Act.put, List.setIfInBounds_toArray, List.set_cons_zero, List.set_cons_succ]
          refine takeW (i := 18) (d := (some 49)) (v := ?_) rfl rfl (by kernel_rfl) (by kernel_rfl) (by kernel_rfl) (fun _ _ _ h => h) (by rfl) ?_ (by assumption) ?_
          rotate_left
          · intro w' hSw; (try dsimp only at hSw); go_simp; try with_reducible rfl
          try simp only [Act.put, List.setIfInBounds_toArray, List.set_cons_zero, List.set_cons_succ]
          refine wpAnyH_done (by kernel_rfl) ?_ _
          have HC4 := Lib.hid (HC3.out.trans hch23.out (by simp))
          clear hch23 hch4
          go_wp2_with (fail)
          go_ret
          exact PutPost.has hv HB.out (HC1.out.trans HC4.out (by simp))
        · have hs1 : (s == 0) = false := beq_eq_false_iff_ne.2 hs0
          have HB : Hid (hasV (ms.map VrV.v) ⟨xm, xc, xo, xd, xg, xt⟩ = false) := HB9.out.trans hs1
          clear hs0 hs HB9 hb0
          refine wp_region_held_drew (S := fun w' => w'.cell? ⟨gn, 0, none⟩ = some (.slice (some ad) ms.length c) ∧ w'.cell? (ad.add (k * 6)) = some (.int .i64 m) ∧ w'.cell? ⟨(ad.add (k * 6)).block, (ad.add (k * 6)).off + 1, none⟩ = some (.int .i64 q) ∧ w'.cell? ⟨(ad.add (k * 6)).block, (ad.add (k * 6)).off + 2, none⟩ = some (.int .i64 o) ∧ w'.cell? ⟨(ad.add (k * 6)).block, (ad.add (k * 6)).off + 3, none⟩ = some (.slice A' d.length p) ∧ w'.cell? ⟨(ad.add (k * 6)).block, (ad.add (k * 6)).off + 4, none⟩ = some (.bool g) ∧ w'.cell? ⟨(ad.add (k * 6)).block, (ad.add (k * 6)).off + 5, none⟩ = some (.int .i64 t) ∧ w'.cell? ⟨gx, 0, none⟩ = some (.int .i64 xm) ∧ w'.cell? ⟨gx, 1, none⟩ = some (.int .i64 xc) ∧ w'.cell? ⟨gx, 2, none⟩ = some (.int .i64 xo) ∧ w'.cell? ⟨gx, 3, none⟩ = some (.slice xA xd.length xp) ∧ w'.cell? ⟨gx, 4, none⟩ = some (.bool xg) ∧ w'.cell? ⟨gx, 5, none⟩ = some (.int .i64 xt)) (by kernel_rfl) ?_ (fun hHeld => ?_)
          · exact K6.out _ ((Chg.refl [] w3).drewN 1)
          refine takeW (i := 0) (d := (some 31)) (v := ?_) rfl rfl (by kernel_rfl) (by kernel_rfl) (by kernel_rfl) (fun _ _ _ h => h) (by rfl) ?_ (by assumption) ?_
          rotate_left
          · intro w' hSw; (try dsimp only at hSw); go_simp; try with_reducible rfl
          try simp only [Act.put, List.setIfInBounds_toArray, List.set_cons_zero, List.set_cons_succ]
          refine takeW (i := 1) (d := (some 32)) (v := ?_) rfl rfl (by kernel_rfl) (by kernel_rfl) (by kernel_rfl) (fun _ _ _ h => h) (by rfl) ?_ (by assumption) ?_
          rotate_left
          · intro w' hSw; (try dsimp only at hSw); go_simp; try with_reducible rfl
          try simp only [Act.put, List.setIfInBounds_toArray, List.set_cons_zero, List.set_cons_succ]
          refine takeW (i := 2) (d := (some 33)) (v := ?_) rfl rfl (by kernel_rfl) (by kernel_rfl) (by kernel_rfl) (fun _ _ _ h => h) (by rfl) ?_ (by assumption) ?_
          rotate_left
          · intro w' hSw; (try dsimp only at hSw); go_simp; try with_reducible rfl
          try simp only [Act.put, List.setIfInBounds_toArray, List.set_cons_zero, List.set_cons_succ]
          refine takeW (i := 3) (d := (some 34)) (v := ?_) rfl rfl (by kernel_rfl) (by kernel_rfl) (by kernel_rfl) (fun _ _ _ h => h) (by rfl) ?_ (by assumption) ?_
          rotate_left
          · intro w' hSw; (try dsimp only at hSw); go_simp; try with_reducible rfl
          try simp only [Act.put, List.setIfInBounds_toArray, List.set_cons_zero, List.set_cons_succ]
          refine takeW (i := 4) (d := (some 35)) (v := ?_) rfl rfl (by kernel_rfl) (by kernel_rfl) (by kernel_rfl) (fun _ _ _ h => h) (by rfl) ?_ (by assumption) ?_
          rotate_left
          · intro w' hSw; (try dsimp only at hSw); go_simp; try with_reducible rfl
          try simp only [Act.put, List.setIfInBounds_toArray, List.set_cons_zero, List.set_cons_succ]
          refine takeW (i := 5) (d := (some 36)) (v := ?_) rfl rfl (by kernel_rfl) (by kernel_rfl) (by kernel_rfl) (fun _ _ _ h => h) (by rfl) ?_ (by assumption) ?_
          rotate_left
          · intro w' hSw; (try dsimp only at hSw); go_simp; try with_reducible rfl
          try simp only [Act.put, List.setIfInBounds_toArray, List.set_cons_zero, List.set_cons_succ]
          refine takeW (i := 6) (d := (some 37)) (v := ?_) rfl rfl (by kernel_rfl) (by kernel_rfl) (by kernel_rfl) (fun _ _ _ h => h) (by rfl) ?_ (by assumption) ?_
          rotate_left
          · intro w' hSw; (try dsimp only at hSw); go_simp; try with_reducible rfl
          try simp only [Act.put, List.setIfInBounds_toArray, List.set_cons_zero, List.set_cons_succ]
          refine takeW (i := 7) (d := (some 38)) (v := ?_) rfl rfl (by kernel_rfl) (by kernel_rfl) (by kernel_rfl) (fun _ _ _ h => h) (by rfl) ?_ (by assumption) ?_
          rotate_left
          · intro w' hSw; (try dsimp only at hSw); go_simp; try with_reducible rfl
          try simp only [Act.put, List.setIfInBounds_toArray, List.set_cons_zero, List.set_cons_succ]
          refine takeW (i := 8) (d := (some 39)) (v := ?_) rfl rfl (by kernel_rfl) (by kernel_rfl) (by kernel_rfl) (fun _ _ _ h => h) (by rfl) ?_ (by assumption) ?_
          rotate_left
          · intro w' hSw; (try dsimp only at hSw); go_simp; try with_reducible rfl
          try simp only [Act.put, List.setIfInBounds_toArray, List.set_cons_zero, List.set_cons_succ]
          refine takeW (i := 9) (d := (some 40)) (v := ?_) rfl rfl (by kernel_rfl) (by kernel_rfl) (by kernel_rfl) (fun _ _ _ h => h) (by rfl) ?_ (by assumption) ?_
          rotate_left
          · intro w' hSw; (try dsimp only at hSw); go_simp; try with_reducible rfl
          try simp only [Act.put, List.setIfInBounds_toArray, List.set_cons_zero, List.set_cons_succ]
          refine takeW (i := 10) (d := (some 41)) (v := ?_) rfl rfl (by kernel_rfl) (by kernel_rfl) (by kernel_rfl) (fun _ _ _ h => h) (by rfl) ?_ (by assumption) ?_
          rotate_left
          · intro w' hSw; (try dsimp only at hSw); go_simp; try with_reducible rfl
          try simp only [Act.put, List.setIfInBounds_toArray, List.set_cons_zero, List.set_cons_succ]
          refine takeW (i := 11) (d := (some 42)) (v := ?_) rfl rfl (by kernel_rfl) (by kernel_rfl) (by kernel_rfl) (fun _ _ _ h => h) (by rfl) ?_ (by assumption) ?_
          rotate_left
          · intro w' hSw; (try dsimp only at hSw); go_simp; try with_reducible rfl
          try simp only [Act.put, List.setIfInBounds_toArray, List.set_cons_zero, List.set_cons_succ]
          refine takeW (i := 12) (d := (some 43)) (v := ?_) rfl rfl (by kernel_rfl) (by kernel_rfl) (by kernel_rfl) (fun _ _ _ h => h) (by rfl) ?_ (by assumption) ?_
          rotate_left
          · intro w' hSw; (try dsimp only at hSw); go_simp; try with_reducible rfl
          try simp only [Act.put, List.setIfInBounds_toArray, List.set_cons_zero, List.set_cons_succ]
          refine takeW (i := 13) (d := (some 44)) (v := ?_) rfl rfl (by kernel_rfl) (by kernel_rfl) (by kernel_rfl) (fun _ _ _ h => h) (by rfl) ?_ (by assumption) ?_
          rotate_left
          · intro w' hSw; (try dsimp only at hSw); go_simp; try with_reducible rfl
          try simp only [Act.put, List.setIfInBounds_toArray, List.set_cons_zero, List.set_cons_succ]
          refine takeW (i := 14) (d := (some 45)) (v := ?_) rfl rfl (by kernel_rfl) (by kernel_rfl) (by kernel_rfl) (fun _ _ _ h => h) (by rfl) ?_ (by assumption) ?_
          rotate_left
          · intro w' hSw; (try dsimp only at hSw); go_simp; try with_reducible rfl
          try simp only [Act.put, List.setIfInBounds_toArray, List.set_cons_zero, List.set_cons_succ]
          refine takeW (i := 15) (d := (some 46)) (v := ?_) rfl rfl (by kernel_rfl) (by kernel_rfl) (by kernel_rfl) (fun _ _ _ h => h) (by rfl) ?_ (by assumption) ?_
          rotate_left
          · intro w' hSw; (try dsimp only at hSw); go_simp; try with_reducible rfl
          try simp only [Act.put, List.setIfInBounds_toArray, List.set_cons_zero, List.set_cons_succ]
          refine wpAnyH_ready (rs := [16]) (by kernel_rfl) (by simp) ?_
          refine AllReadyH.cons rfl (fun K hK => ?_) AllReadyH.nil
          go_simp
          go_at_call 37
          (with_reducible refine (refOrder_any _ m q o A' d.length p g t xm xc xo xA xd.length xp xg xt d xd).mono ?_)
          rintro e w4 ⟨rfl, hch4⟩
          rw [HS.out]
          have hch23 : Hid (Chg [] w3 w4) := ((by repeat' (first | (with_reducible assumption) | (with_reducible exact Chg.refl _ _) | (with_reducible refine Chg.alloc ?_ _) | (with_reducible refine Chg.drewN ?_ _) | (with_reducible refine Chg.drew ?_) | (with_reducible refine Chg.strW ?_ _ _) | (with_reducible refine Chg.t0 ?_ (by with_reducible assumption)))) : Chg [] w3 w4)
          go_wp2_with (fail)
          refine hK.out _ _ ?_ (fun hHeld => ?_)
          · first | exact K6.out _ hch23.out | (dsimp only; exact K6.out _ hch23.out)
          clear hK K
          try simp only [Act.put, List.setIfInBounds_toArray, List.set_cons_zero, List.set_cons_succ]
          refine takeW (i := 17) (d := (some 48)) (v := ?_) rfl rfl (by kernel_rfl) (by kernel_rfl) (by kernel_rfl) (fun _ _ _ h => h) (by rfl) ?_ (by assumption) ?_
          rotate_left
          · intro w' hSw; (try dsimp only at hSw); go_simp; try with_reducible rfl
          try simp only [Act.put, List.setIfInBounds_toArray, List.set_cons_zero, List.set_cons_succ]
          refine takeW (i := 18) (d := (some 49)) (v := ?_) rfl rfl (by kernel_rfl) (by kernel_rfl) (by kernel_rfl) (fun _ _ _ h => h) (by rfl) ?_ (by assumption) ?_
          rotate_left
          · intro w' hSw; (try dsimp only at hSw); go_simp; try with_reducible rfl
          try simp only [Act.put, List.setIfInBounds_toArray, List.set_cons_zero, List.set_cons_succ]
          refine wpAnyH_done (by kernel_rfl) ?_ _
          have HC4 := Lib.hid (HC3.out.trans hch23.out (by simp))
          clear hch23 hch4 K6 HC3 HCr HHr HXr HS hs1
          clear had HAD
          go_upto_region 8 with (fail)
          generalize w4 = wz at *
          have H8 := Lib.hid (HH1.out.keep HC4.out)
          have HX8 := Lib.hid (HX1.out.keep HC4.out (by simp))
          have HXR8 := Lib.hid (HXR1.out.keep0 HC4.out)
          have HC8 := Lib.hid (HC1.out.trans HC4.out (by simp))
          have K8 : Hid (∀ w', Chg [] wz w' → w'.cell? ⟨gn, 0, none⟩ = some (.slice A ms.length c) ∧ w'.cell? ⟨gx, 0, none⟩ = some (.int .i64 xm) ∧ w'.cell? ⟨gx, 1, none⟩ = some (.int .i64 xc) ∧ w'.cell? ⟨gx, 2, none⟩ = some (.int .i64 xo) ∧ w'.cell? ⟨gx, 3, none⟩ = some (.slice xA xd.length xp) ∧ w'.cell? ⟨gx, 4, none⟩ = some (.bool xg) ∧ w'.cell? ⟨gx, 5, none⟩ = some (.int .i64 xt)) := fun w' hc => ⟨(H8.out.at_.keep hc (by simp)).cell 0, (HX8.out.keep hc (by simp)).cell 0, (HX8.out.keep hc (by simp)).cell 1, (HX8.out.keep hc (by simp)).cell 2, (HX8.out.keep hc (by simp)).cell 3, (HX8.out.keep hc (by simp)).cell 4, (HX8.out.keep hc (by simp)).cell 5⟩
          clear HC4
          refine wp_regionE 12 (fun w' => w'.cell? ⟨gn, 0, none⟩ = some (.slice A ms.length c) ∧ w'.cell? ⟨gx, 0, none⟩ = some (.int .i64 xm) ∧ w'.cell? ⟨gx, 1, none⟩ = some (.int .i64 xc) ∧ w'.cell? ⟨gx, 2, none⟩ = some (.int .i64 xo) ∧ w'.cell? ⟨gx, 3, none⟩ = some (.slice xA xd.length xp) ∧ w'.cell? ⟨gx, 4, none⟩ = some (.bool xg) ∧ w'.cell? ⟨gx, 5, none⟩ = some (.int .i64 xt)) (by kernel_rfl) ?_ (fun hHeld => ?_)
          · exact K8.out _ ((Chg.refl [] wz).drew)
          have HDR : Hid (Chg [] wz wz.drew) := (Chg.refl [] wz).drew
          generalize wz.drew = wd at *
          have HD := Lib.hid (H8.out.keep HDR.out)
          have HCD := Lib.hid (HC8.out.trans HDR.out (by simp))
          have HXD := Lib.hid (HXR8.out.keep0 HDR.out)
          have HAX := Lib.hid (HX8.out.keep HDR.out (by simp))
          have hcap := own_cap HD.out.row
          have KD : Hid (∀ w', Chg [] wd w' → w'.cell? ⟨gn, 0, none⟩ = some (.slice A ms.length c) ∧ w'.cell? ⟨gx, 0, none⟩ = some (.int .i64 xm) ∧ w'.cell? ⟨gx, 1, none⟩ = some (.int .i64 xc) ∧ w'.cell? ⟨gx, 2, none⟩ = some (.int .i64 xo) ∧ w'.cell? ⟨gx, 3, none⟩ = some (.slice xA xd.length xp) ∧ w'.cell? ⟨gx, 4, none⟩ = some (.bool xg) ∧ w'.cell? ⟨gx, 5, none⟩ = some (.int .i64 xt)) := fun w' hc => ⟨(HD.out.at_.keep hc (by simp)).cell 0, (HAX.out.keep hc (by simp)).cell 0, (HAX.out.keep hc (by simp)).cell 1, (HAX.out.keep hc (by simp)).cell 2, (HAX.out.keep hc (by simp)).cell 3, (HAX.out.keep hc (by simp)).cell 4, (HAX.out.keep hc (by simp)).cell 5⟩
          have RT8 := Lib.hid (HD.out.toVsP.rd.take (k := k) (by omega))
          have sh := fun w => run_slice_hi (P := Try.prog) w Try.underlying22 hi1 A ms.length c (k : Int) k rfl (by omega)
          clear K8 H8 HC8 HXR8 HX8
          refine takeWE (i := 1) (d := (some 51)) (v := ?_) rfl rfl (by kernel_rfl) (by kernel_rfl) (by kernel_rfl) (by kernel_rfl) (by kernel_rfl) (fun _ _ _ h => h) (by rfl) ?_ (by assumption) ?_
          rotate_left
          · intro w' hSw; (try dsimp only at hSw); go_simp; try with_reducible rfl
          try simp only [Act.put, List.setIfInBounds_toArray, List.set_cons_zero, List.set_cons_succ]
          refine takeWE (i := 2) (d := (some 52)) (v := ?_) rfl rfl (by kernel_rfl) (by kernel_rfl) (by kernel_rfl) (by kernel_rfl) (by kernel_rfl) (fun _ _ _ h => h) (by rfl) ?_ (by assumption) ?_
          rotate_left
          · intro w' hSw; (try dsimp only at hSw); go_simp; try with_reducible rfl
          try simp only [Act.put, List.setIfInBounds_toArray, List.set_cons_zero, List.set_cons_succ]
          refine takeWE (i := 3) (d := (some 53)) (v := ?_) rfl rfl (by kernel_rfl) (by kernel_rfl) (by kernel_rfl) (by kernel_rfl) (by kernel_rfl) (fun _ _ _ h => h) (by rfl) ?_ (by assumption) ?_
          rotate_left
          · intro w' hSw; (try dsimp only at hSw); go_simp; try with_reducible rfl
          try simp only [Act.put, List.setIfInBounds_toArray, List.set_cons_zero, List.set_cons_succ]
          refine takeWE (i := 4) (d := (some 54)) (v := ?_) rfl rfl (by kernel_rfl) (by kernel_rfl) (by kernel_rfl) (by kernel_rfl) (by kernel_rfl) (fun _ _ _ h => h) (by rfl) ?_ (by assumption) ?_
          rotate_left
          · intro w' hSw; (try dsimp only at hSw); go_simp; try with_reducible rfl
          try simp only [Act.put, List.setIfInBounds_toArray, List.set_cons_zero, List.set_cons_succ]
          refine takeWE (i := 5) (d := (some 55)) (v := ?_) rfl rfl (by kernel_rfl) (by kernel_rfl) (by kernel_rfl) (by kernel_rfl) (by kernel_rfl) (fun _ _ _ h => h) (by rfl) ?_ (by assumption) ?_
          rotate_left
          · intro w' hSw; (try dsimp only at hSw); go_simp; try with_reducible rfl
          try simp only [Act.put, List.setIfInBounds_toArray, List.set_cons_zero, List.set_cons_succ]
          refine takeWE (i := 6) (d := (some 56)) (v := ?_) rfl rfl (by kernel_rfl) (by kernel_rfl) (by kernel_rfl) (by kernel_rfl) (by kernel_rfl) (fun _ _ _ h => h) (by rfl) ?_ (by assumption) ?_
          rotate_left
          · intro w' hSw; (try dsimp only at hSw); go_simp; try with_reducible rfl
          try simp only [Act.put, List.setIfInBounds_toArray, List.set_cons_zero, List.set_cons_succ]
          refine takeWE (i := 8) (d := (some 58)) (v := ?_) rfl rfl (by kernel_rfl) (by kernel_rfl) (by kernel_rfl) (by kernel_rfl) (by kernel_rfl) (fun _ _ _ h => h) (by rfl) ?_ (by assumption) ?_
          rotate_left
          · intro w' hSw; (try dsimp only at hSw); go_simp; try with_reducible rfl
          try simp only [Act.put, List.setIfInBounds_toArray, List.set_cons_zero, List.set_cons_succ]
          refine wpE_ready (rs := [0]) (by kernel_rfl) (by simp) ?_
          refine AllE.cons rfl (fun K hK => ?_) (AllE.nil)
          go_simp
          go_wp2_with (fail)
          refine hK.out _ _ ?_ (fun hHeld => ?_)
          · exact KD.out _ ((Chg.refl [] wd).alloc _)
          clear hK K
          try simp only [Act.put, List.setIfInBounds_toArray, List.set_cons_zero, List.set_cons_succ]
          refine wpE_ready (rs := [7]) (by kernel_rfl) (by simp) ?_
          refine AllE.cons rfl (fun K hK => ?_) (AllE.nil)
          refine wp_append_rd _ (.tmp 50) (.tmp 56) 22 (by rfl) wd.heap.size 28 i1 _ 6 64 Try.underlying22 hi1 hy0 hy1 hy2 rfl (by omega) (.slice (some ⟨wd.heap.size, 0, none⟩) 0 0) 0 [] (by simp [Act.eval, Act.put]) (World.ownsRow_made wd #[] 0 (Nat.le_refl _) (by simp [maxLen]) rfl) A k c ((cVr ms).take (k * 6)) (by simp [Act.eval, Act.put]) (RT8.out.alloc _) (fun u hu => cVr_one ms u (List.mem_of_mem_take hu)) (by unfold maxLen; omega) (by omega) (by simp) ?_
          intro A4 c4 w4 hown4 hg4 hb4
          simp only [Nat.zero_add, List.nil_append] at hown4
          have HC4 : Hid (Chg [] wd w4) := ((Chg.refl [] wd).alloc _).grown hg4 (fun k hk => .inr (by simp [Value.ownBlock] at hk; omega))
          have OW4 := Lib.hid hown4
          clear hown4 hg4 hb4
          refine hK.out _ _ ?_ (fun hHeld => ?_)
          · exact KD.out _ HC4.out
          clear hK K
          try simp only [Act.put, List.setIfInBounds_toArray, List.set_cons_zero, List.set_cons_succ]
          refine wpE_ready (rs := [9]) (by kernel_rfl) (by simp) ?_
          refine AllE.cons rfl (fun K hK => ?_) (AllE.nil)
          go_simp
          go_at_call 38
          (with_reducible refine (ownR_any _ xm xc xo xA xp xg xt xd (HXD.out.keep0 HC4.out) hxl).mono ?_)
          rintro e w5 ⟨A5, c5, rfl, hown5, hch5⟩
          have HC5 : Hid (Chg [] wd w5) := HC4.out.trans hch5 (by simp)
          have HO5 := Lib.hid hown5
          have OW5 := Lib.hid (own_k0 OW4.out hch5)
          have HB5 : Hid (wd.heap.size ≤ w4.heap.size) := HC4.out.size
          clear hown5 hch5
          go_wp2_with (fail)
          refine hK.out _ _ ?_ (fun hHeld => ?_)
          · exact KD.out _ HC5.out
          clear hK K
          try simp only [Act.put, List.setIfInBounds_toArray, List.set_cons_zero, List.set_cons_succ]
          refine wpE_ready (rs := [10]) (by kernel_rfl) (by simp) ?_
          refine AllE.cons rfl (fun K hK => ?_) (AllE.nil)
          go_simp
          go_wp2_with (fail)
          have HC6 : Hid (Chg [] wd (w5.alloc (.cells #[.int .i64 xm, .int .i64 xc, .int .i64 xo, .slice A5 xd.length c5, .bool xg, .int .i64 xt] 28))) := HC5.out.alloc _
          have HO6 := Lib.hid (own_k0 HO5.out ((Chg.refl [] w5).alloc (.cells #[.int .i64 xm, .int .i64 xc, .int .i64 xo, .slice A5 xd.length c5, .bool xg, .int .i64 xt] 28)))
          have OW6 := Lib.hid (own_k0 OW5.out ((Chg.refl [] w5).alloc (.cells #[.int .i64 xm, .int .i64 xc, .int .i64 xo, .slice A5 xd.length c5, .bool xg, .int .i64 xt] 28)))
          have HR6 : Hid (Rd (w5.alloc (.cells #[.int .i64 xm, .int .i64 xc, .int .i64 xo, .slice A5 xd.length c5, .bool xg, .int .i64 xt] 28)) 6 (some ⟨w5.heap.size, 0, none⟩) 1 [.int .i64 xm, .int .i64 xc, .int .i64 xo, .slice A5 xd.length c5, .bool xg, .int .i64 xt]) := Rd.new' rfl rfl rfl
          generalize hvb : w5.heap.size = vb at *
          generalize hw6 : w5.alloc (.cells #[.int .i64 xm, .int .i64 xc, .int .i64 xo, .slice A5 xd.length c5, .bool xg, .int .i64 xt] 28) = w6 at *
          refine hK.out _ _ ?_ (fun hHeld => ?_)
          · exact KD.out _ HC6.out
          clear hK K
          try simp only [Act.put, List.setIfInBounds_toArray, List.set_cons_zero, List.set_cons_succ]
          refine wpE_ready (rs := [11]) (by kernel_rfl) (by simp) ?_
          refine AllE.cons rfl (fun K hK => ?_) (AllE.nil)
          refine wp_append_rd _ (.tmp 57) (.tmp 60) 22 (by rfl) wd.heap.size 28 i1 _ 6 64 Try.underlying22 hi1 hy0 hy1 hy2 rfl (by omega) (.slice A4 k c4) k ((cVr ms).take (k * 6)) (by simp [Act.eval, Act.put]) OW6.out (some ⟨vb, 0, none⟩) 1 1 [.int .i64 xm, .int .i64 xc, .int .i64 xo, .slice A5 xd.length c5, .bool xg, .int .i64 xt] (by simp [Act.eval, Act.put]) HR6.out (by simp [Value.oneCell']) (by unfold maxLen; omega) (by omega) HC6.out.size ?_
          intro A7 c7 w7 hown7 hg7 hb7
          have HC7 : Hid (Chg [] wd w7) := HC6.out.grown hg7 (fun k hk => .inr (OW6.out.lt k hk).1)
          have HO7 : Hid (w7.ownsRow w4.heap.size 5 1 (.slice A5 xd.length c5) xd.length (cB xd)) := own_apart HO6.out hg7 OW6.out
          have OW7 := Lib.hid hown7
          clear hown7 hg7 hb7
          refine hK.out _ _ ?_ (fun hHeld => ?_)
          · exact KD.out _ HC7.out
          clear hK K
          try simp only [Act.put, List.setIfInBounds_toArray, List.set_cons_zero, List.set_cons_succ]
          refine wpE_ready (rs := [12]) (by kernel_rfl) (by simp) ?_
          refine AllE.last rfl (by kernel_rfl) (fun K hK => ?_)
          go_simp
          go_wp2_with (fail)
          refine hK.out _ _ ?_
          clear hK K hHeld
          have HC7w := Lib.hid (HCD.out.trans HC7.out (by simp))
          have HA7 := Lib.hid (HD.out.at_.keep HC7.out (by simp))
          have g7 := HA7.out.cell 0
          have f7 := HA7.out.free 0
          simp only [List.getElem?_toArray, List.getElem?_cons_zero] at g7
          have sl := fun w => run_slice_lo (P := Try.prog) w Try.underlying22 hi1 hy1 A ms.length c (k : Int) k rfl (by omega)
          have RL7 := Lib.hid ((Rd.cutR (HD.out.toVsP.rd) (k := k) (cap := c) (by omega) (by omega)).keep0 HC7.out)
          have HE : Hid (k + 1 + (ms.length - k) = ms.length + 1) := by unfold Hid; omega
          have hq := HC7.out.size
          go_wp2_with (at_builtin; refine wpList_append_rd _ rfl (.tmp 63) (.tmp 69) 22 (by rfl) wd.heap.size 28 i1 _ 6 64 Try.underlying22 hi1 hy0 hy1 hy2 rfl (by omega) (.slice A7 (k + 1) c7) (k + 1) ((cVr ms).take (k * 6) ++ [.int .i64 xm, .int .i64 xc, .int .i64 xo, .slice A5 xd.length c5, .bool xg, .int .i64 xt]) (by rfl) OW7.out (cutA A c k 6) (ms.length - k) (c - k) ((cVr ms).drop (k * 6)) (by rfl) RL7.out (fun u hu => cVr_one ms u (List.mem_of_mem_drop hu)) (by unfold maxLen; omega) (by omega) hq ?_; intro A8 c8 w8 hown8 hg8 hb8; rw [HE.out] at hown8; rw [HE.out]; have hc8 : Chg [] wd w8 := HC7.out.grown hg8 (fun k hk => .inr (OW7.out.lt k hk).1); have HC8 := Lib.hid hc8; have g8 := (HD.out.at_.keep hc8 (by simp)).cell 0; have f8 := (HD.out.at_.keep hc8 (by simp)).free 0; have HPD := Lib.hid (putR_done (v := ⟨xm, xc, xo, xd, xg, xt⟩) H ref_ne.1 ref_ne.2 (HCD.out.trans hc8 (by simp)) (own_apart HO7.out hg8 OW7.out) (Nat.le_trans HCD.out.size HB5.out) hown8 HCD.out.size); clear hown8 hg8 hb8 hc8 g7 f7 sl hq)
          go_ret
          obtain ⟨h1, h2, h3, h4⟩ := HPD.out
          exact PutPost.yes hv HB.out (by rw [HP.out]; exact h1) h2 h3 h4
    · have hki : ¬ (k : Int) < (ms.length : Int) := by omega
      have HP : Hid (posV (ms.map VrV.v) ⟨xm, xc, xo, xd, xg, xt⟩ = k) := takeWhile_len _ (by rw [List.length_map]; omega) (fun j h hj => decide_eq_true (by rw [List.getElem_map]; exact HI.out j (by rwa [List.length_map] at h) hj)) (fun h => absurd h (by rw [List.length_map]; exact hlt))
      have HB : Hid (hasV (ms.map VrV.v) ⟨xm, xc, xo, xd, xg, xt⟩ = false) := by
        unfold Hid
        rw [hasV_pos HRI.out, dif_neg (by rw [HP.out, List.length_map]; exact hlt)]
      have KK : Hid (∀ w', Chg [] wr w' → w'.cell? ⟨gn, 0, none⟩ = some (.slice A ms.length c) ∧ w'.cell? ⟨gx, 0, none⟩ = some (.int .i64 xm) ∧ w'.cell? ⟨gx, 1, none⟩ = some (.int .i64 xc) ∧ w'.cell? ⟨gx, 2, none⟩ = some (.int .i64 xo) ∧ w'.cell? ⟨gx, 3, none⟩ = some (.slice xA xd.length xp) ∧ w'.cell? ⟨gx, 4, none⟩ = some (.bool xg) ∧ w'.cell? ⟨gx, 5, none⟩ = some (.int .i64 xt)) := fun w' hc => ⟨(HHr.out.at_.keep hc (by simp)).cell 0, (HXr.out.keep hc (by simp)).cell 0, (HXr.out.keep hc (by simp)).cell 1, (HXr.out.keep hc (by simp)).cell 2, (HXr.out.keep hc (by simp)).cell 3, (HXr.out.keep hc (by simp)).cell 4, (HXr.out.keep hc (by simp)).cell 5⟩
      clear HI hlt
      go_upto_region 4 with (fail)
      refine wp_region_held_drew (S := fun w' => w'.cell? ⟨gn, 0, none⟩ = some (.slice A ms.length c) ∧ w'.cell? ⟨gx, 0, none⟩ = some (.int .i64 xm) ∧ w'.cell? ⟨gx, 1, none⟩ = some (.int .i64 xc) ∧ w'.cell? ⟨gx, 2, none⟩ = some (.int .i64 xo) ∧ w'.cell? ⟨gx, 3, none⟩ = some (.slice xA xd.length xp) ∧ w'.cell? ⟨gx, 4, none⟩ = some (.bool xg) ∧ w'.cell? ⟨gx, 5, none⟩ = some (.int .i64 xt)) (by kernel_rfl) ?_ (fun hHeld => ?_)
      · exact KK.out _ ((Chg.refl [] wr).drewN 1)
      refine takeW (i := 0) (d := (some 10)) (v := ?_) rfl rfl (by kernel_rfl) (by kernel_rfl) (by kernel_rfl) (fun _ _ _ h => h) (by rfl) ?_ (by assumption) ?_
      rotate_left
      · intro w' hSw; (try dsimp only at hSw); go_simp; try with_reducible rfl
      try simp only [Act.put, List.setIfInBounds_toArray, List.set_cons_zero, List.set_cons_succ]
      refine takeW (i := 1) (d := (some 11)) (v := ?_) rfl rfl (by kernel_rfl) (by kernel_rfl) (by kernel_rfl) (fun _ _ _ h => h) (by rfl) ?_ (by assumption) ?_
      rotate_left
      · intro w' hSw; (try dsimp only at hSw); go_simp; try with_reducible rfl
      try simp only [Act.put, List.setIfInBounds_toArray, List.set_cons_zero, List.set_cons_succ]
      refine takeW (i := 2) (d := (some 12)) (v := ?_) rfl rfl (by kernel_rfl) (by kernel_rfl) (by kernel_rfl) (fun _ _ _ h => h) (by rfl) ?_ (by assumption) ?_
      rotate_left
      · intro w' hSw; (try dsimp only at hSw); go_simp; try with_reducible rfl
      try simp only [Act.put, List.setIfInBounds_toArray, List.set_cons_zero, List.set_cons_succ]
      refine takeW (i := 3) (d := (some 13)) (v := ?_) rfl rfl (by kernel_rfl) (by kernel_rfl) (by kernel_rfl) (fun _ _ _ h => h) (by rfl) ?_ (by assumption) ?_
      rotate_left
      · intro w' hSw; (try dsimp only at hSw); go_simp; try with_reducible rfl
      try simp only [Act.put, List.setIfInBounds_toArray, List.set_cons_zero, List.set_cons_succ]
      refine takeW (i := 4) (d := (some 14)) (v := ?_) rfl rfl (by kernel_rfl) (by kernel_rfl) (by kernel_rfl) (fun _ _ _ h => h) (by rfl) ?_ (by assumption) ?_
      rotate_left
      · intro w' hSw; (try dsimp only at hSw); go_simp; try with_reducible rfl
      try simp only [Act.put, List.setIfInBounds_toArray, List.set_cons_zero, List.set_cons_succ]
      refine takeW (i := 5) (d := (some 15)) (v := ?_) rfl rfl (by kernel_rfl) (by kernel_rfl) (by kernel_rfl) (fun _ _ _ h => h) (by rfl) ?_ (by assumption) ?_
      rotate_left
      · intro w' hSw; (try dsimp only at hSw); go_simp; try with_reducible rfl
      try simp only [Act.put, List.setIfInBounds_toArray, List.set_cons_zero, List.set_cons_succ]
      refine takeW (i := 6) (d := (some 16)) (v := ?_) rfl rfl (by kernel_rfl) (by kernel_rfl) (by kernel_rfl) (fun _ _ _ h => h) (by rfl) ?_ (by assumption) ?_
      rotate_left
      · intro w' hSw; (try dsimp only at hSw); go_simp; try with_reducible rfl
      try simp only [Act.put, List.setIfInBounds_toArray, List.set_cons_zero, List.set_cons_succ]
      refine takeW (i := 7) (d := (some 17)) (v := ?_) rfl rfl (by kernel_rfl) (by kernel_rfl) (by kernel_rfl) (fun _ _ _ h => h) (by rfl) ?_ (by assumption) ?_
      rotate_left
      · intro w' hSw; (try dsimp only at hSw); go_simp; try with_reducible rfl
      try simp only [Act.put, List.setIfInBounds_toArray, List.set_cons_zero, List.set_cons_succ]
      refine takeU (i := 8) (d := (some 18)) rfl rfl (by kernel_rfl) (by kernel_rfl) (by kernel_rfl) (fun _ _ _ h => h) (by rfl) (by assumption) ?_
      try simp only [Act.put, List.setIfInBounds_toArray, List.set_cons_zero, List.set_cons_succ]
      refine takeU (i := 9) (d := (some 19)) rfl rfl (by kernel_rfl) (by kernel_rfl) (by kernel_rfl) (fun _ _ _ h => h) (by rfl) (by assumption) ?_
      try simp only [Act.put, List.setIfInBounds_toArray, List.set_cons_zero, List.set_cons_succ]
      refine takeU (i := 10) (d := (some 20)) rfl rfl (by kernel_rfl) (by kernel_rfl) (by kernel_rfl) (fun _ _ _ h => h) (by rfl) (by assumption) ?_
      try simp only [Act.put, List.setIfInBounds_toArray, List.set_cons_zero, List.set_cons_succ]
      refine takeU (i := 11) (d := (some 21)) rfl rfl (by kernel_rfl) (by kernel_rfl) (by kernel_rfl) (fun _ _ _ h => h) (by rfl) (by assumption) ?_
      try simp only [Act.put, List.setIfInBounds_toArray, List.set_cons_zero, List.set_cons_succ]
      refine takeU (i := 12) (d := (some 22)) rfl rfl (by kernel_rfl) (by kernel_rfl) (by kernel_rfl) (fun _ _ _ h => h) (by rfl) (by assumption) ?_
      try simp only [Act.put, List.setIfInBounds_toArray, List.set_cons_zero, List.set_cons_succ]
      refine takeU (i := 13) (d := (some 23)) rfl rfl (by kernel_rfl) (by kernel_rfl) (by kernel_rfl) (fun _ _ _ h => h) (by rfl) (by assumption) ?_
      try simp only [Act.put, List.setIfInBounds_toArray, List.set_cons_zero, List.set_cons_succ]
      refine takeU (i := 14) (d := (some 24)) rfl rfl (by kernel_rfl) (by kernel_rfl) (by kernel_rfl) (fun _ _ _ h => h) (by rfl) (by assumption) ?_
      try simp only [Act.put, List.setIfInBounds_toArray, List.set_cons_zero, List.set_cons_succ]
      refine takeU (i := 15) (d := (some 25)) rfl rfl (by kernel_rfl) (by kernel_rfl) (by kernel_rfl) (fun _ _ _ h => h) (by rfl) (by assumption) ?_
      try simp only [Act.put, List.setIfInBounds_toArray, List.set_cons_zero, List.set_cons_succ]
      refine takeU (i := 16) (d := (some 26)) rfl rfl (by kernel_rfl) (by kernel_rfl) (by kernel_rfl) (fun _ _ _ h => h) (by rfl) (by assumption) ?_
      try simp only [Act.put, List.setIfInBounds_toArray, List.set_cons_zero, List.set_cons_succ]
      refine takeU (i := 17) (d := (some 27)) rfl rfl (by kernel_rfl) (by kernel_rfl) (by kernel_rfl) (fun _ _ _ h => h) (by rfl) (by assumption) ?_
      try simp only [Act.put, List.setIfInBounds_toArray, List.set_cons_zero, List.set_cons_succ]
      refine takeW (i := 18) (d := (some 28)) (v := ?_) rfl rfl (by kernel_rfl) (by kernel_rfl) (by kernel_rfl) (fun _ _ _ h => h) (by rfl) ?_ (by assumption) ?_
      rotate_left
      · intro w' hSw; (try dsimp only at hSw); go_simp; try with_reducible rfl
      try simp only [Act.put, List.setIfInBounds_toArray, List.set_cons_zero, List.set_cons_succ]
      refine wpAnyH_done (by kernel_rfl) ?_ _
      have HCq := Lib.hid HCr.out.drew
      have K6 : Hid (∀ w', Chg [] wr.drew w' → w'.cell? ⟨gn, 0, none⟩ = some (.slice A ms.length c) ∧ w'.cell? ⟨gx, 0, none⟩ = some (.int .i64 xm) ∧ w'.cell? ⟨gx, 1, none⟩ = some (.int .i64 xc) ∧ w'.cell? ⟨gx, 2, none⟩ = some (.int .i64 xo) ∧ w'.cell? ⟨gx, 3, none⟩ = some (.slice xA xd.length xp) ∧ w'.cell? ⟨gx, 4, none⟩ = some (.bool xg) ∧ w'.cell? ⟨gx, 5, none⟩ = some (.int .i64 xt)) := fun w' hc => KK.out _ ((Chg.refl [] wr).drew.trans hc (by simp))
      generalize wr.drew = wq at *
      clear KK HHr HXr HCr
      go_upto_region 6 with (fail)
      refine wp_region_held_drew (S := fun w' => w'.cell? ⟨gn, 0, none⟩ = some (.slice A ms.length c) ∧ w'.cell? ⟨gx, 0, none⟩ = some (.int .i64 xm) ∧ w'.cell? ⟨gx, 1, none⟩ = some (.int .i64 xc) ∧ w'.cell? ⟨gx, 2, none⟩ = some (.int .i64 xo) ∧ w'.cell? ⟨gx, 3, none⟩ = some (.slice xA xd.length xp) ∧ w'.cell? ⟨gx, 4, none⟩ = some (.bool xg) ∧ w'.cell? ⟨gx, 5, none⟩ = some (.int .i64 xt)) (by kernel_rfl) ?_ (fun hHeld => ?_)
      · exact K6.out _ ((Chg.refl [] wq).drewN 1)
      refine takeW (i := 0) (d := (some 31)) (v := ?_) rfl rfl (by kernel_rfl) (by kernel_rfl) (by kernel_rfl) (fun _ _ _ h => h) (by rfl) ?_ (by assumption) ?_
      rotate_left
      · intro w' hSw; (try dsimp only at hSw); go_simp; try with_reducible rfl
      try simp only [Act.put, List.setIfInBounds_toArray, List.set_cons_zero, List.set_cons_succ]
      refine takeW (i := 1) (d := (some 32)) (v := ?_) rfl rfl (by kernel_rfl) (by kernel_rfl) (by kernel_rfl) (fun _ _ _ h => h) (by rfl) ?_ (by assumption) ?_
      rotate_left
      · intro w' hSw; (try dsimp only at hSw); go_simp; try with_reducible rfl
      try simp only [Act.put, List.setIfInBounds_toArray, List.set_cons_zero, List.set_cons_succ]
      refine takeW (i := 2) (d := (some 33)) (v := ?_) rfl rfl (by kernel_rfl) (by kernel_rfl) (by kernel_rfl) (fun _ _ _ h => h) (by rfl) ?_ (by assumption) ?_
      rotate_left
      · intro w' hSw; (try dsimp only at hSw); go_simp; try with_reducible rfl
      try simp only [Act.put, List.setIfInBounds_toArray, List.set_cons_zero, List.set_cons_succ]
      refine takeW (i := 3) (d := (some 34)) (v := ?_) rfl rfl (by kernel_rfl) (by kernel_rfl) (by kernel_rfl) (fun _ _ _ h => h) (by rfl) ?_ (by assumption) ?_
      rotate_left
      · intro w' hSw; (try dsimp only at hSw); go_simp; try with_reducible rfl
      try simp only [Act.put, List.setIfInBounds_toArray, List.set_cons_zero, List.set_cons_succ]
      refine takeW (i := 4) (d := (some 35)) (v := ?_) rfl rfl (by kernel_rfl) (by kernel_rfl) (by kernel_rfl) (fun _ _ _ h => h) (by rfl) ?_ (by assumption) ?_
      rotate_left
      · intro w' hSw; (try dsimp only at hSw); go_simp; try with_reducible rfl
      try simp only [Act.put, List.setIfInBounds_toArray, List.set_cons_zero, List.set_cons_succ]
      refine takeW (i := 5) (d := (some 36)) (v := ?_) rfl rfl (by kernel_rfl) (by kernel_rfl) (by kernel_rfl) (fun _ _ _ h => h) (by rfl) ?_ (by assumption) ?_
      rotate_left
      · intro w' hSw; (try dsimp only at hSw); go_simp; try with_reducible rfl
      try simp only [Act.put, List.setIfInBounds_toArray, List.set_cons_zero, List.set_cons_succ]
      refine takeW (i := 6) (d := (some 37)) (v := ?_) rfl rfl (by kernel_rfl) (by kernel_rfl) (by kernel_rfl) (fun _ _ _ h => h) (by rfl) ?_ (by assumption) ?_
      rotate_left
      · intro w' hSw; (try dsimp only at hSw); go_simp; try with_reducible rfl
      try simp only [Act.put, List.setIfInBounds_toArray, List.set_cons_zero, List.set_cons_succ]
      refine takeW (i := 7) (d := (some 38)) (v := ?_) rfl rfl (by kernel_rfl) (by kernel_rfl) (by kernel_rfl) (fun _ _ _ h => h) (by rfl) ?_ (by assumption) ?_
      rotate_left
      · intro w' hSw; (try dsimp only at hSw); go_simp; try with_reducible rfl
      try simp only [Act.put, List.setIfInBounds_toArray, List.set_cons_zero, List.set_cons_succ]
      refine takeU (i := 8) (d := (some 39)) rfl rfl (by kernel_rfl) (by kernel_rfl) (by kernel_rfl) (fun _ _ _ h => h) (by rfl) (by assumption) ?_
      try simp only [Act.put, List.setIfInBounds_toArray, List.set_cons_zero, List.set_cons_succ]
      refine takeU (i := 9) (d := (some 40)) rfl rfl (by kernel_rfl) (by kernel_rfl) (by kernel_rfl) (fun _ _ _ h => h) (by rfl) (by assumption) ?_
      try simp only [Act.put, List.setIfInBounds_toArray, List.set_cons_zero, List.set_cons_succ]
      refine takeU (i := 10) (d := (some 41)) rfl rfl (by kernel_rfl) (by kernel_rfl) (by kernel_rfl) (fun _ _ _ h => h) (by rfl) (by assumption) ?_
      try simp only [Act.put, List.setIfInBounds_toArray, List.set_cons_zero, List.set_cons_succ]
      refine takeU (i := 11) (d := (some 42)) rfl rfl (by kernel_rfl) (by kernel_rfl) (by kernel_rfl) (fun _ _ _ h => h) (by rfl) (by assumption) ?_
      try simp only [Act.put, List.setIfInBounds_toArray, List.set_cons_zero, List.set_cons_succ]
      refine takeU (i := 12) (d := (some 43)) rfl rfl (by kernel_rfl) (by kernel_rfl) (by kernel_rfl) (fun _ _ _ h => h) (by rfl) (by assumption) ?_
      try simp only [Act.put, List.setIfInBounds_toArray, List.set_cons_zero, List.set_cons_succ]
      refine takeU (i := 13) (d := (some 44)) rfl rfl (by kernel_rfl) (by kernel_rfl) (by kernel_rfl) (fun _ _ _ h => h) (by rfl) (by assumption) ?_
      try simp only [Act.put, List.setIfInBounds_toArray, List.set_cons_zero, List.set_cons_succ]
      refine takeU (i := 14) (d := (some 45)) rfl rfl (by kernel_rfl) (by kernel_rfl) (by kernel_rfl) (fun _ _ _ h => h) (by rfl) (by assumption) ?_
      try simp only [Act.put, List.setIfInBounds_toArray, List.set_cons_zero, List.set_cons_succ]
      refine takeU (i := 15) (d := (some 46)) rfl rfl (by kernel_rfl) (by kernel_rfl) (by kernel_rfl) (fun _ _ _ h => h) (by rfl) (by assumption) ?_
      try simp only [Act.put, List.setIfInBounds_toArray, List.set_cons_zero, List.set_cons_succ]
      refine takeU (i := 16) (d := (some 47)) rfl rfl (by kernel_rfl) (by kernel_rfl) (by kernel_rfl) (fun _ _ _ h => h) (by rfl) (by assumption) ?_
      try simp only [Act.put, List.setIfInBounds_toArray, List.set_cons_zero, List.set_cons_succ]
      refine takeU (i := 17) (d := (some 48)) rfl rfl (by kernel_rfl) (by kernel_rfl) (by kernel_rfl) (fun _ _ _ h => h) (by rfl) (by assumption) ?_
      try simp only [Act.put, List.setIfInBounds_toArray, List.set_cons_zero, List.set_cons_succ]
      refine takeW (i := 18) (d := (some 49)) (v := ?_) rfl rfl (by kernel_rfl) (by kernel_rfl) (by kernel_rfl) (fun _ _ _ h => h) (by rfl) ?_ (by assumption) ?_
      rotate_left
      · intro w' hSw; (try dsimp only at hSw); go_simp; try with_reducible rfl
      try simp only [Act.put, List.setIfInBounds_toArray, List.set_cons_zero, List.set_cons_succ]
      refine wpAnyH_done (by kernel_rfl) ?_ _
      have HC4 := Lib.hid HCq.out.drew
      clear K6 HCq
      go_upto_region 8 with (fail)
      generalize wq.drew = wz at *
      have H8 := Lib.hid (HH1.out.keep HC4.out)
      have HX8 := Lib.hid (HX1.out.keep HC4.out (by simp))
      have HXR8 := Lib.hid (HXR1.out.keep0 HC4.out)
      have HC8 := Lib.hid (HC1.out.trans HC4.out (by simp))
      have K8 : Hid (∀ w', Chg [] wz w' → w'.cell? ⟨gn, 0, none⟩ = some (.slice A ms.length c) ∧ w'.cell? ⟨gx, 0, none⟩ = some (.int .i64 xm) ∧ w'.cell? ⟨gx, 1, none⟩ = some (.int .i64 xc) ∧ w'.cell? ⟨gx, 2, none⟩ = some (.int .i64 xo) ∧ w'.cell? ⟨gx, 3, none⟩ = some (.slice xA xd.length xp) ∧ w'.cell? ⟨gx, 4, none⟩ = some (.bool xg) ∧ w'.cell? ⟨gx, 5, none⟩ = some (.int .i64 xt)) := fun w' hc => ⟨(H8.out.at_.keep hc (by simp)).cell 0, (HX8.out.keep hc (by simp)).cell 0, (HX8.out.keep hc (by simp)).cell 1, (HX8.out.keep hc (by simp)).cell 2, (HX8.out.keep hc (by simp)).cell 3, (HX8.out.keep hc (by simp)).cell 4, (HX8.out.keep hc (by simp)).cell 5⟩
      clear HC4
      refine wp_regionE 12 (fun w' => w'.cell? ⟨gn, 0, none⟩ = some (.slice A ms.length c) ∧ w'.cell? ⟨gx, 0, none⟩ = some (.int .i64 xm) ∧ w'.cell? ⟨gx, 1, none⟩ = some (.int .i64 xc) ∧ w'.cell? ⟨gx, 2, none⟩ = some (.int .i64 xo) ∧ w'.cell? ⟨gx, 3, none⟩ = some (.slice xA xd.length xp) ∧ w'.cell? ⟨gx, 4, none⟩ = some (.bool xg) ∧ w'.cell? ⟨gx, 5, none⟩ = some (.int .i64 xt)) (by kernel_rfl) ?_ (fun hHeld => ?_)
      · exact K8.out _ ((Chg.refl [] wz).drew)
      have HDR : Hid (Chg [] wz wz.drew) := (Chg.refl [] wz).drew
      generalize wz.drew = wd at *
      have HD := Lib.hid (H8.out.keep HDR.out)
      have HCD := Lib.hid (HC8.out.trans HDR.out (by simp))
      have HXD := Lib.hid (HXR8.out.keep0 HDR.out)
      have HAX := Lib.hid (HX8.out.keep HDR.out (by simp))
      have hcap := own_cap HD.out.row
      have KD : Hid (∀ w', Chg [] wd w' → w'.cell? ⟨gn, 0, none⟩ = some (.slice A ms.length c) ∧ w'.cell? ⟨gx, 0, none⟩ = some (.int .i64 xm) ∧ w'.cell? ⟨gx, 1, none⟩ = some (.int .i64 xc) ∧ w'.cell? ⟨gx, 2, none⟩ = some (.int .i64 xo) ∧ w'.cell? ⟨gx, 3, none⟩ = some (.slice xA xd.length xp) ∧ w'.cell? ⟨gx, 4, none⟩ = some (.bool xg) ∧ w'.cell? ⟨gx, 5, none⟩ = some (.int .i64 xt)) := fun w' hc => ⟨(HD.out.at_.keep hc (by simp)).cell 0, (HAX.out.keep hc (by simp)).cell 0, (HAX.out.keep hc (by simp)).cell 1, (HAX.out.keep hc (by simp)).cell 2, (HAX.out.keep hc (by simp)).cell 3, (HAX.out.keep hc (by simp)).cell 4, (HAX.out.keep hc (by simp)).cell 5⟩
      have RT8 := Lib.hid (HD.out.toVsP.rd.take (k := k) (by omega))
      have sh := fun w => run_slice_hi (P := Try.prog) w Try.underlying22 hi1 A ms.length c (k : Int) k rfl (by omega)
      clear K8 H8 HC8 HXR8 HX8
      refine takeWE (i := 1) (d := (some 51)) (v := ?_) rfl rfl (by kernel_rfl) (by kernel_rfl) (by kernel_rfl) (by kernel_rfl) (by kernel_rfl) (fun _ _ _ h => h) (by rfl) ?_ (by assumption) ?_
      rotate_left
      · intro w' hSw; (try dsimp only at hSw); go_simp; try with_reducible rfl
      try simp only [Act.put, List.setIfInBounds_toArray, List.set_cons_zero, List.set_cons_succ]
      refine takeWE (i := 2) (d := (some 52)) (v := ?_) rfl rfl (by kernel_rfl) (by kernel_rfl) (by kernel_rfl) (by kernel_rfl) (by kernel_rfl) (fun _ _ _ h => h) (by rfl) ?_ (by assumption) ?_
      rotate_left
      · intro w' hSw; (try dsimp only at hSw); go_simp; try with_reducible rfl
      try simp only [Act.put, List.setIfInBounds_toArray, List.set_cons_zero, List.set_cons_succ]
      refine takeWE (i := 3) (d := (some 53)) (v := ?_) rfl rfl (by kernel_rfl) (by kernel_rfl) (by kernel_rfl) (by kernel_rfl) (by kernel_rfl) (fun _ _ _ h => h) (by rfl) ?_ (by assumption) ?_
      rotate_left
      · intro w' hSw; (try dsimp only at hSw); go_simp; try with_reducible rfl
      try simp only [Act.put, List.setIfInBounds_toArray, List.set_cons_zero, List.set_cons_succ]
      refine takeWE (i := 4) (d := (some 54)) (v := ?_) rfl rfl (by kernel_rfl) (by kernel_rfl) (by kernel_rfl) (by kernel_rfl) (by kernel_rfl) (fun _ _ _ h => h) (by rfl) ?_ (by assumption) ?_
      rotate_left
      · intro w' hSw; (try dsimp only at hSw); go_simp; try with_reducible rfl
      try simp only [Act.put, List.setIfInBounds_toArray, List.set_cons_zero, List.set_cons_succ]
      refine takeWE (i := 5) (d := (some 55)) (v := ?_) rfl rfl (by kernel_rfl) (by kernel_rfl) (by kernel_rfl) (by kernel_rfl) (by kernel_rfl) (fun _ _ _ h => h) (by rfl) ?_ (by assumption) ?_
      rotate_left
      · intro w' hSw; (try dsimp only at hSw); go_simp; try with_reducible rfl
      try simp only [Act.put, List.setIfInBounds_toArray, List.set_cons_zero, List.set_cons_succ]
      refine takeWE (i := 6) (d := (some 56)) (v := ?_) rfl rfl (by kernel_rfl) (by kernel_rfl) (by kernel_rfl) (by kernel_rfl) (by kernel_rfl) (fun _ _ _ h => h) (by rfl) ?_ (by assumption) ?_
      rotate_left
      · intro w' hSw; (try dsimp only at hSw); go_simp; try with_reducible rfl
      try simp only [Act.put, List.setIfInBounds_toArray, List.set_cons_zero, List.set_cons_succ]
      refine takeWE (i := 8) (d := (some 58)) (v := ?_) rfl rfl (by kernel_rfl) (by kernel_rfl) (by kernel_rfl) (by kernel_rfl) (by kernel_rfl) (fun _ _ _ h => h) (by rfl) ?_ (by assumption) ?_
      rotate_left
      · intro w' hSw; (try dsimp only at hSw); go_simp; try with_reducible rfl
      try simp only [Act.put, List.setIfInBounds_toArray, List.set_cons_zero, List.set_cons_succ]
      refine wpE_ready (rs := [0]) (by kernel_rfl) (by simp) ?_
      refine AllE.cons rfl (fun K hK => ?_) (AllE.nil)
      go_simp
      go_wp2_with (fail)
      refine hK.out _ _ ?_ (fun hHeld => ?_)
      · exact KD.out _ ((Chg.refl [] wd).alloc _)
      clear hK K
      try simp only [Act.put, List.setIfInBounds_toArray, List.set_cons_zero, List.set_cons_succ]
      refine wpE_ready (rs := [7]) (by kernel_rfl) (by simp) ?_
      refine AllE.cons rfl (fun K hK => ?_) (AllE.nil)
      refine wp_append_rd _ (.tmp 50) (.tmp 56) 22 (by rfl) wd.heap.size 28 i1 _ 6 64 Try.underlying22 hi1 hy0 hy1 hy2 rfl (by omega) (.slice (some ⟨wd.heap.size, 0, none⟩) 0 0) 0 [] (by simp [Act.eval, Act.put]) (World.ownsRow_made wd #[] 0 (Nat.le_refl _) (by simp [maxLen]) rfl) A k c ((cVr ms).take (k * 6)) (by simp [Act.eval, Act.put]) (RT8.out.alloc _) (fun u hu => cVr_one ms u (List.mem_of_mem_take hu)) (by unfold maxLen; omega) (by omega) (by simp) ?_
      intro A4 c4 w4 hown4 hg4 hb4
      simp only [Nat.zero_add, List.nil_append] at hown4
      have HC4 : Hid (Chg [] wd w4) := ((Chg.refl [] wd).alloc _).grown hg4 (fun k hk => .inr (by simp [Value.ownBlock] at hk; omega))
      have OW4 := Lib.hid hown4
      clear hown4 hg4 hb4
      refine hK.out _ _ ?_ (fun hHeld => ?_)
      · exact KD.out _ HC4.out
      clear hK K
      try simp only [Act.put, List.setIfInBounds_toArray, List.set_cons_zero, List.set_cons_succ]
      refine wpE_ready (rs := [9]) (by kernel_rfl) (by simp) ?_
      refine AllE.cons rfl (fun K hK => ?_) (AllE.nil)
      go_simp
      go_at_call 38
      (with_reducible refine (ownR_any _ xm xc xo xA xp xg xt xd (HXD.out.keep0 HC4.out) hxl).mono ?_)
      rintro e w5 ⟨A5, c5, rfl, hown5, hch5⟩
      have HC5 : Hid (Chg [] wd w5) := HC4.out.trans hch5 (by simp)
      have HO5 := Lib.hid hown5
      have OW5 := Lib.hid (own_k0 OW4.out hch5)
      have HB5 : Hid (wd.heap.size ≤ w4.heap.size) := HC4.out.size
      clear hown5 hch5
      go_wp2_with (fail)
      refine hK.out _ _ ?_ (fun hHeld => ?_)
      · exact KD.out _ HC5.out
      clear hK K
      try simp only [Act.put, List.setIfInBounds_toArray, List.set_cons_zero, List.set_cons_succ]
      refine wpE_ready (rs := [10]) (by kernel_rfl) (by simp) ?_
      refine AllE.cons rfl (fun K hK => ?_) (AllE.nil)
      go_simp
      go_wp2_with (fail)
      have HC6 : Hid (Chg [] wd (w5.alloc (.cells #[.int .i64 xm, .int .i64 xc, .int .i64 xo, .slice A5 xd.length c5, .bool xg, .int .i64 xt] 28))) := HC5.out.alloc _
      have HO6 := Lib.hid (own_k0 HO5.out ((Chg.refl [] w5).alloc (.cells #[.int .i64 xm, .int .i64 xc, .int .i64 xo, .slice A5 xd.length c5, .bool xg, .int .i64 xt] 28)))
      have OW6 := Lib.hid (own_k0 OW5.out ((Chg.refl [] w5).alloc (.cells #[.int .i64 xm, .int .i64 xc, .int .i64 xo, .slice A5 xd.length c5, .bool xg, .int .i64 xt] 28)))
      have HR6 : Hid (Rd (w5.alloc (.cells #[.int .i64 xm, .int .i64 xc, .int .i64 xo, .slice A5 xd.length c5, .bool xg, .int .i64 xt] 28)) 6 (some ⟨w5.heap.size, 0, none⟩) 1 [.int .i64 xm, .int .i64 xc, .int .i64 xo, .slice A5 xd.length c5, .bool xg, .int .i64 xt]) := Rd.new' rfl rfl rfl
      generalize hvb : w5.heap.size = vb at *
      generalize hw6 : w5.alloc (.cells #[.int .i64 xm, .int .i64 xc, .int .i64 xo, .slice A5 xd.length c5, .bool xg, .int .i64 xt] 28) = w6 at *
      refine hK.out _ _ ?_ (fun hHeld => ?_)
      · exact KD.out _ HC6.out
      clear hK K
      try simp only [Act.put, List.setIfInBounds_toArray, List.set_cons_zero, List.set_cons_succ]
      refine wpE_ready (rs := [11]) (by kernel_rfl) (by simp) ?_
      refine AllE.cons rfl (fun K hK => ?_) (AllE.nil)
      refine wp_append_rd _ (.tmp 57) (.tmp 60) 22 (by rfl) wd.heap.size 28 i1 _ 6 64 Try.underlying22 hi1 hy0 hy1 hy2 rfl (by omega) (.slice A4 k c4) k ((cVr ms).take (k * 6)) (by simp [Act.eval, Act.put]) OW6.out (some ⟨vb, 0, none⟩) 1 1 [.int .i64 xm, .int .i64 xc, .int .i64 xo, .slice A5 xd.length c5, .bool xg, .int .i64 xt] (by simp [Act.eval, Act.put]) HR6.out (by simp [Value.oneCell']) (by unfold maxLen; omega) (by omega) HC6.out.size ?_
      intro A7 c7 w7 hown7 hg7 hb7
      have HC7 : Hid (Chg [] wd w7) := HC6.out.grown hg7 (fun k hk => .inr (OW6.out.lt k hk).1)
      have HO7 : Hid (w7.ownsRow w4.heap.size 5 1 (.slice A5 xd.length c5) xd.length (cB xd)) := own_apart HO6.out hg7 OW6.out
      have OW7 := Lib.hid hown7
      clear hown7 hg7 hb7
      refine hK.out _ _ ?_ (fun hHeld => ?_)
      · exact KD.out _ HC7.out
      clear hK K
      try simp only [Act.put, List.setIfInBounds_toArray, List.set_cons_zero, List.set_cons_succ]
      refine wpE_ready (rs := [12]) (by kernel_rfl) (by simp) ?_
      refine AllE.last rfl (by kernel_rfl) (fun K hK => ?_)
      go_simp
      go_wp2_with (fail)
      refine hK.out _ _ ?_
      clear hK K hHeld
      have HC7w := Lib.hid (HCD.out.trans HC7.out (by simp))
      have HA7 := Lib.hid (HD.out.at_.keep HC7.out (by simp))
      have g7 := HA7.out.cell 0
      have f7 := HA7.out.free 0
      simp only [List.getElem?_toArray, List.getElem?_cons_zero] at g7
      have sl := fun w => run_slice_lo (P := Try.prog) w Try.underlying22 hi1 hy1 A ms.length c (k : Int) k rfl (by omega)
      have RL7 := Lib.hid ((Rd.cutR (HD.out.toVsP.rd) (k := k) (cap := c) (by omega) (by omega)).keep0 HC7.out)
      have HE : Hid (k + 1 + (ms.length - k) = ms.length + 1) := by unfold Hid; omega
      have hq := HC7.out.size
      go_wp2_with (at_builtin; refine wpList_append_rd _ rfl (.tmp 63) (.tmp 69) 22 (by rfl) wd.heap.size 28 i1 _ 6 64 Try.underlying22 hi1 hy0 hy1 hy2 rfl (by omega) (.slice A7 (k + 1) c7) (k + 1) ((cVr ms).take (k * 6) ++ [.int .i64 xm, .int .i64 xc, .int .i64 xo, .slice A5 xd.length c5, .bool xg, .int .i64 xt]) (by rfl) OW7.out (cutA A c k 6) (ms.length - k) (c - k) ((cVr ms).drop (k * 6)) (by rfl) RL7.out (fun u hu => cVr_one ms u (List.mem_of_mem_drop hu)) (by unfold maxLen; omega) (by omega) hq ?_; intro A8 c8 w8 hown8 hg8 hb8; rw [HE.out] at hown8; rw [HE.out]; have hc8 : Chg [] wd w8 := HC7.out.grown hg8 (fun k hk => .inr (OW7.out.lt k hk).1); have HC8 := Lib.hid hc8; have g8 := (HD.out.at_.keep hc8 (by simp)).cell 0; have f8 := (HD.out.at_.keep hc8 (by simp)).free 0; have HPD := Lib.hid (putR_done (v := ⟨xm, xc, xo, xd, xg, xt⟩) H ref_ne.1 ref_ne.2 (HCD.out.trans hc8 (by simp)) (own_apart HO7.out hg8 OW7.out) (Nat.le_trans HCD.out.size HB5.out) hown8 HCD.out.size); clear hown8 hg8 hb8 hc8 g7 f7 sl hq)
      go_ret
      obtain ⟨h1, h2, h3, h4⟩ := HPD.out
      exact PutPost.yes hv HB.out (by rw [HP.out]; exact h1) h2 h3 h4
end Go.Proofs.Ytmliclfepnebfaa
namespace Go.Proofs.Ytmliclfepnebfaa
open Go.RowKit
set_option linter.unusedVariables false
set_option linter.unusedSimpArgs false
/-- A version as an answer: its bytes can be read. -/
def AtRPost (v : VV) (b : Bool) (w : World) (e : Ending) (w' : World) : Prop :=
  ∃ A c, e = .returned (.tuple #[.agg (v.cells A c), .bool b]) ∧ Rd w' 1 A v.d.length (cB v.d) ∧ Chg [] w w'
def GetRPost (d : List UInt8) (b : Bool) (w : World) (e : Ending) (w' : World) : Prop :=
  ∃ A c, e = .returned (.tuple #[.slice A d.length c, .bool b]) ∧ Rd w' 1 A d.length (cB d) ∧ Chg [] w w'
set_option maxRecDepth 100000 in
set_option maxHeartbeats 6400000 in
theorem atR_raw (w : World) (gn : Nat) (A : Option Addr) (c : Nat) (ms : List VrV) (H : ChP 55 gn A c ms w) (hn : ms.length ≤ 1000000) (hrise : Rise (ms.map VrV.v)) (sm sc : Int) :
    Calls Try.prog 22 #[.pointer (some ⟨gn, 0, none⟩), .agg #[.int .i64 sm, .int .i64 sc]] w (AtRPost (atX (ms.map VrV.v) ⟨sm, sc⟩) (atB (ms.map VrV.v) ⟨sm, sc⟩) w) := by
  have HZ := Lib.hid (At.newG (w.alloc (.cells #[.int .i64 sm, .int .i64 sc] 25)) 28 #[.int .i64 0, .int .i64 0, .int .i64 0, .slice none 0 0, .bool false, .int .i64 0] (g := w.heap.size + 1) (by simp))
  have HX := Lib.hid ((At.new w 25 #[.int .i64 sm, .int .i64 sc]).al (.cells #[.int .i64 0, .int .i64 0, .int .i64 0, .slice none 0 0, .bool false, .int .i64 0] 28))
  have HQ := Lib.hid (((Chg.refl [] w).alloc (.cells #[.int .i64 sm, .int .i64 sc] 25)).alloc (.cells #[.int .i64 0, .int .i64 0, .int .i64 0, .slice none 0 0, .bool false, .int .i64 0] 28))
  have HH := Lib.hid (H.keep HQ.out)
  have HUP := Lib.hid (place_raw _ gn A c ms HH.out hn hrise sm sc)
  have HAX : Hid (atX (ms.map VrV.v) ⟨sm, sc⟩ = if uptoV (ms.map VrV.v) ⟨sm, sc⟩ = 0 then zeroV else (ms.map VrV.v).getD (uptoV (ms.map VrV.v) ⟨sm, sc⟩ - 1) zeroV) := rfl
  have HAB : Hid (atB (ms.map VrV.v) ⟨sm, sc⟩ = decide (0 < uptoV (ms.map VrV.v) ⟨sm, sc⟩)) := rfl
  have hle := uptoV_le (ms.map VrV.v) ⟨sm, sc⟩
  rw [List.length_map] at hle
  generalize uptoV (ms.map VrV.v) ⟨sm, sc⟩ = n at *
  generalize atX (ms.map VrV.v) ⟨sm, sc⟩ = vx at *
  generalize atB (ms.map VrV.v) ⟨sm, sc⟩ = bx at *
  have x0 := HX.out.cell 0
  have x1 := HX.out.cell 1
  clear hrise
  go_enter Try.func22, Try.ntmps22
  go_wp2_with (fail)
  generalize hwz : (w.alloc (.cells #[.int .i64 sm, .int .i64 sc] 25)).alloc (.cells #[.int .i64 0, .int .i64 0, .int .i64 0, .slice none 0 0, .bool false, .int .i64 0] 28) = wz at *
  refine HUP.out.mono ?_
  rintro e w1 ⟨rfl, hc1⟩
  clear HUP x0 x1
  have HH1 := Lib.hid (HH.out.keep hc1)
  have HZ1 := Lib.hid (HZ.out.keep hc1 (by simp))
  have HC1 := Lib.hid (HQ.out.trans hc1 (by simp))
  clear HZ HH HX HQ hc1 hwz
  have hgw : Hid (w.heap.size ≤ w.heap.size + 1) := Nat.le_succ _
  generalize hg0 : w.heap.size + 1 = g0 at *
  have u0 := HZ1.out.cell 0
  have u1 := HZ1.out.cell 1
  have u2 := HZ1.out.cell 2
  have u3 := HZ1.out.cell 3
  have u4 := HZ1.out.cell 4
  have u5 := HZ1.out.cell 5
  have fu0 := HZ1.out.free 0
  have fu1 := HZ1.out.free 1
  have fu2 := HZ1.out.free 2
  have fu3 := HZ1.out.free 3
  have fu4 := HZ1.out.free 4
  have fu5 := HZ1.out.free 5
  simp only [List.getElem?_toArray, List.getElem?_cons_zero, List.getElem?_cons_succ] at u0 u1 u2 u3 u4 u5
  by_cases h0 : n = 0
  · subst h0
    obtain rfl : vx = zeroV := HAX.out
    obtain rfl : bx = false := HAB.out
    have hkk : (((0 : Nat) : Int)) - 1 = -1 := rfl
    rw [hkk]
    go_wp2_with (fail)
    refine ret_ver2 (g := g0) (T := 28) (cs := #[.int .i64 0, .int .i64 0, .int .i64 0, .slice none 0 0, .bool false, .int .i64 0]) (v := .bool false) rfl Try.results22 rfl rfl ?_ ?_
    · have h := ((((((HZ1.out.set_ 0 (.int .i64 0)).set_ 1 (.int .i64 0)).set_ 2 (.int .i64 0)).set_ 3 (.slice none 0 0)).set_ 4 (.bool false)).set_ 5 (.int .i64 0))
      simpa using h
    · have q9 : Chg [g0] w1 ((((((w1.setCell ⟨g0, 0, none⟩ (.int .i64 0)).setCell ⟨g0, 1, none⟩ (.int .i64 0)).setCell ⟨g0, 2, none⟩ (.int .i64 0)).setCell ⟨g0, 3, none⟩ (.slice none 0 0)).setCell ⟨g0, 4, none⟩ (.bool false)).setCell ⟨g0, 5, none⟩ (.int .i64 0)) := (((((((Chg.refl _ _).setCell (.inl (by simp)) _).setCell (.inl (by simp)) _).setCell (.inl (by simp)) _).setCell (.inl (by simp)) _).setCell (.inl (by simp)) _).setCell (.inl (by simp)) _)
      exact ⟨none, 0, rfl, Rd.nil _ _ _, HC1.out.trans q9 (by simp; omega)⟩
  · obtain ⟨k, rfl⟩ : ∃ k, n = k + 1 := ⟨n - 1, by omega⟩
    have hk : k < ms.length := by omega
    rw [if_neg h0] at HAX
    obtain rfl : bx = true := HAB.out.trans (decide_eq_true (by omega))
    obtain rfl : vx = (ms[k]).v := by
      have h := HAX.out
      rw [Nat.add_sub_cancel, List.getD_eq_getElem?_getD, List.getElem?_eq_getElem (by rw [List.length_map]; exact hk), List.getElem_map] at h
      exact h
    have hkk : (((k + 1 : Nat) : Int)) - 1 = (k : Int) := by omega
    rw [hkk]
    have hk0 : (0 : Int) ≤ (k : Int) := by omega
    have hk2 : ¬ (k : Int) < 0 := by omega
    have hk1 : (k : Int) < (ms.length : Int) := by omega
    have HR := Lib.hid (Rd.of_own HH1.out.row)
    have HD := Lib.hid (Rd.of_own (HH1.out.dat _ (List.getElem_mem hk)))
    have HDL : Hid (∀ j ∈ blk (ms[k]).A, j ≠ g0) := fun j hj => own_at_ne (HH1.out.dat _ (List.getElem_mem hk)) HZ1.out (by decide) j (ob _ _ _ _ hj)
    obtain ⟨ad, rfl, had, hc0, hc⟩ := HR.out.getV hk
    have hc1 := hc 1 _ (by omega) rfl
    have hc2 := hc 2 _ (by omega) rfl
    have hc3 := hc 3 _ (by omega) rfl
    have hc4 := hc 4 _ (by omega) rfl
    have hc5 := hc 5 _ (by omega) rfl
    have a0 := HH1.out.at_.cell 0
    simp only [List.getElem?_toArray, List.getElem?_cons_zero, List.getElem?_cons_succ] at a0
    generalize ms[k] = y at *
    clear hc HR HAX HAB hkk h0
    obtain ⟨m, q, o, A', d, p, g, t⟩ := y
    simp only [VrV.v] at hc0 hc1 hc2 hc3 hc4 hc5 HD HDL ⊢
    go_wp2_with (fail)
    refine ret_ver2 (g := g0) (T := 28) (cs := #[.int .i64 m, .int .i64 q, .int .i64 o, .slice A' d.length p, .bool g, .int .i64 t]) (v := .bool true) rfl Try.results22 rfl rfl ?_ ?_
    · have h := ((((((HZ1.out.set_ 0 (.int .i64 m)).set_ 1 (.int .i64 q)).set_ 2 (.int .i64 o)).set_ 3 (.slice A' d.length p)).set_ 4 (.bool g)).set_ 5 (.int .i64 t))
      simpa using h
    · have q9 : Chg [g0] w1 ((((((w1.setCell ⟨g0, 0, none⟩ (.int .i64 m)).setCell ⟨g0, 1, none⟩ (.int .i64 q)).setCell ⟨g0, 2, none⟩ (.int .i64 o)).setCell ⟨g0, 3, none⟩ (.slice A' d.length p)).setCell ⟨g0, 4, none⟩ (.bool g)).setCell ⟨g0, 5, none⟩ (.int .i64 t)) := (((((((Chg.refl _ _).setCell (.inl (by simp)) _).setCell (.inl (by simp)) _).setCell (.inl (by simp)) _).setCell (.inl (by simp)) _).setCell (.inl (by simp)) _).setCell (.inl (by simp)) _)
      exact ⟨A', p, rfl, HD.out.keep q9 (fun _ j hj hm => HDL.out j hj (by simpa using hm)), HC1.out.trans q9 (by simp; omega)⟩
set_option maxRecDepth 100000 in
set_option maxHeartbeats 6400000 in
theorem getR_raw (w : World) (gn : Nat) (A : Option Addr) (c : Nat) (ms : List VrV) (H : ChP 55 gn A c ms w) (hn : ms.length ≤ 1000000) (hrise : Rise (ms.map VrV.v)) (hV : Valid (ms.map VrV.v)) (sm sc : Int) (hs : sm ≤ 9223372036854775807) :
    Calls Try.prog 24 #[.pointer (some ⟨gn, 0, none⟩), .agg #[.int .i64 sm, .int .i64 sc]] w (GetRPost (getD (ms.map VrV.v) ⟨sm, sc⟩) (getB (ms.map VrV.v) ⟨sm, sc⟩) w) := by
  have HX := Lib.hid (At.new w 25 #[.int .i64 sm, .int .i64 sc])
  have HQ := Lib.hid ((Chg.refl [] w).alloc (.cells #[.int .i64 sm, .int .i64 sc] 25))
  have HH := Lib.hid (H.keep HQ.out)
  have HAT := Lib.hid (atR_raw _ gn A c ms HH.out hn hrise sm sc)
  have HM : Hid (atB (ms.map VrV.v) ⟨sm, sc⟩ = true → 0 ≤ (atX (ms.map VrV.v) ⟨sm, sc⟩).m ∧ (atX (ms.map VrV.v) ⟨sm, sc⟩).m ≤ 281474976710655) := fun h => (isVV_iff.1 (hV _ (atX_mem h))).m0
  have HG : Hid (getB (ms.map VrV.v) ⟨sm, sc⟩ = (atB (ms.map VrV.v) ⟨sm, sc⟩ && seenV (atX (ms.map VrV.v) ⟨sm, sc⟩) ⟨sm, sc⟩)) := rfl
  have HD : Hid (getD (ms.map VrV.v) ⟨sm, sc⟩ = if getB (ms.map VrV.v) ⟨sm, sc⟩ then (atX (ms.map VrV.v) ⟨sm, sc⟩).d else []) := rfl
  generalize getD (ms.map VrV.v) ⟨sm, sc⟩ = dx at *
  generalize getB (ms.map VrV.v) ⟨sm, sc⟩ = gb at *
  generalize atX (ms.map VrV.v) ⟨sm, sc⟩ = vx at *
  generalize atB (ms.map VrV.v) ⟨sm, sc⟩ = b at *
  have x0 := HX.out.cell 0
  have x1 := HX.out.cell 1
  clear hrise hV
  go_enter Try.func24, Try.ntmps24
  go_wp2_with (fail)
  generalize hwz : w.alloc (.cells #[.int .i64 sm, .int .i64 sc] 25) = wz at *
  generalize hgs : w.heap.size = gs at *
  refine HAT.out.mono ?_
  rintro e w1 ⟨A5, c5, rfl, hrd, hc1⟩
  clear HAT x0 x1
  obtain ⟨m, q, o, d, g, t⟩ := vx
  simp only [VV.cells] at hrd HM HD ⊢
  have HX1 := HX.out.keep hc1 (by simp)
  have HC1 := Lib.hid (HQ.out.trans hc1 (by simp))
  have HO := Lib.hid hrd
  have HZ2 := Lib.hid (At.new w1 28 #[.int .i64 m, .int .i64 q, .int .i64 o, .slice A5 d.length c5, .bool g, .int .i64 t])
  have HX2 := Lib.hid (HX1.al (.cells #[.int .i64 m, .int .i64 q, .int .i64 o, .slice A5 d.length c5, .bool g, .int .i64 t] 28))
  have HC2 : Hid (Chg [] w (w1.alloc (.cells #[.int .i64 m, .int .i64 q, .int .i64 o, .slice A5 d.length c5, .bool g, .int .i64 t] 28))) := HC1.out.alloc _
  have HO2 := Lib.hid (HO.out.alloc (.cells #[.int .i64 m, .int .i64 q, .int .i64 o, .slice A5 d.length c5, .bool g, .int .i64 t] 28))
  clear HX1 HO hrd hc1 HX HH HQ
  go_upto_region 2 with (fail)
  generalize w1.alloc (.cells #[.int .i64 m, .int .i64 q, .int .i64 o, .slice A5 d.length c5, .bool g, .int .i64 t] 28) = w2 at *
  generalize w1.heap.size = g6 at *
  have KK : Hid (∀ w', Chg [] w2 w' → w'.cell? ⟨g6, 0, none⟩ = some (.int .i64 m) ∧ w'.cell? ⟨g6, 1, none⟩ = some (.int .i64 q) ∧ w'.cell? ⟨g6, 2, none⟩ = some (.int .i64 o) ∧ w'.cell? ⟨g6, 3, none⟩ = some (.slice A5 d.length c5) ∧ w'.cell? ⟨g6, 4, none⟩ = some (.bool g) ∧ w'.cell? ⟨g6, 5, none⟩ = some (.int .i64 t) ∧ w'.cell? ⟨gs, 0, none⟩ = some (.int .i64 sm) ∧ w'.cell? ⟨gs, 1, none⟩ = some (.int .i64 sc)) := fun w' hc => ⟨(HZ2.out.keep hc (by simp)).cell 0, (HZ2.out.keep hc (by simp)).cell 1, (HZ2.out.keep hc (by simp)).cell 2, (HZ2.out.keep hc (by simp)).cell 3, (HZ2.out.keep hc (by simp)).cell 4, (HZ2.out.keep hc (by simp)).cell 5, (HX2.out.keep hc (by simp)).cell 0, (HX2.out.keep hc (by simp)).cell 1⟩
  cases b
  · obtain rfl : gb = false := HG.out
    obtain rfl : dx = [] := HD.out
    go_wp2_with (fail)
    go_ret2
    exact ⟨none, 0, rfl, Rd.nil _ _ _, by first | exact HC2.out | exact HC2.out.drewN _⟩
  · have hm := HM.out rfl
    obtain ⟨s, HS⟩ : ∃ s, Hid (seenV ⟨m, q, o, d, g, t⟩ ⟨sm, sc⟩ = s) := ⟨_, Lib.hid rfl⟩
    obtain rfl : gb = s := HG.out.trans ((Bool.true_and _).trans HS.out)
    obtain ⟨h0, h1, h2, h3, h4, h5, h6, h7⟩ := KK.out w2 (Chg.refl _ _)
    go_wp2_with (fail)
    refine (refSeen_any w2 m q o A5 d.length c5 g t sm sc hm.1 hm.2 hs d).mono ?_
    rw [HS.out]
    rintro e w3 ⟨rfl, hc3⟩
    clear h0 h1 h2 h3 h4 h5 h6 h7
    have hh3 := (HZ2.out.keep hc3 (by simp)).cell 3
    simp only [List.getElem?_toArray, List.getElem?_cons_zero, List.getElem?_cons_succ] at hh3
    cases gb
    · obtain rfl : dx = [] := HD.out
      go_wp2_with (fail)
      go_ret2
      exact ⟨none, 0, rfl, Rd.nil _ _ _, HC2.out.trans hc3 (by simp)⟩
    · obtain rfl : dx = d := HD.out
      go_wp2_with (fail)
      go_ret2
      exact ⟨A5, c5, rfl, HO2.out.keep0 hc3, HC2.out.trans hc3 (by simp)⟩
end Go.Proofs.Ytmliclfepnebfaa
namespace Go.Proofs.Ytmliclfepnebfaa
open Go.RowKit
set_option linter.unusedVariables false
set_option linter.unusedSimpArgs false
set_option maxRecDepth 100000 in
set_option maxHeartbeats 6400000 in
theorem trimR_raw (w : World) (gn : Nat) (A : Option Addr) (c : Nat) (ms : List VrV) (H : ChP 55 gn A c ms w) (hn : ms.length ≤ 1000000) (hrise : Rise (ms.map VrV.v)) (hV : Valid (ms.map VrV.v)) (sm sc : Int) (hs : sm ≤ 9223372036854775807) :
    Calls Try.prog 27 #[.pointer (some ⟨gn, 0, none⟩), .agg #[.int .i64 sm, .int .i64 sc]] w (TrimPost 55 gn ms (trimN (ms.map VrV.v) ⟨sm, sc⟩) w) := by
  obtain ⟨i1, hi1, hy0, hy1, hy2⟩ := info_parts info_ver
  have HX := Lib.hid (At.new w 25 #[.int .i64 sm, .int .i64 sc])
  have HQ := Lib.hid ((Chg.refl [] w).alloc (.cells #[.int .i64 sm, .int .i64 sc] 25))
  have HH := Lib.hid (H.keep HQ.out)
  have HUP := Lib.hid (place_raw _ gn A c ms HH.out hn hrise sm sc)
  have HT : Hid (trimN (ms.map VrV.v) ⟨sm, sc⟩ = if (decide (0 < uptoV (ms.map VrV.v) ⟨sm, sc⟩) && seenV (if uptoV (ms.map VrV.v) ⟨sm, sc⟩ = 0 then zeroV else (ms.map VrV.v).getD (uptoV (ms.map VrV.v) ⟨sm, sc⟩ - 1) zeroV) ⟨sm, sc⟩) then uptoV (ms.map VrV.v) ⟨sm, sc⟩ - 1 else uptoV (ms.map VrV.v) ⟨sm, sc⟩) := rfl
  have hle := uptoV_le (ms.map VrV.v) ⟨sm, sc⟩
  rw [List.length_map] at hle
  generalize uptoV (ms.map VrV.v) ⟨sm, sc⟩ = n at *
  generalize trimN (ms.map VrV.v) ⟨sm, sc⟩ = r at *
  have x0 := HX.out.cell 0
  have x1 := HX.out.cell 1
  clear hrise
  go_enter Try.func27, Try.ntmps27
  go_wp2_with (fail)
  generalize hwz : w.alloc (.cells #[.int .i64 sm, .int .i64 sc] 25) = wz at *
  generalize hgs : w.heap.size = gs at *
  refine HUP.out.mono ?_
  rintro e w1 ⟨rfl, hc1⟩
  clear HUP x0 x1
  have HX1 := Lib.hid (HX.out.keep hc1 (by simp))
  have HH1 := Lib.hid (HH.out.keep hc1)
  have HC1 := Lib.hid (HQ.out.trans hc1 (by simp))
  clear HX HH HQ hc1 hwz
  by_cases h0 : n = 0
  · subst h0
    obtain rfl : r = 0 := HT.out
    have hkk : (((0 : Nat) : Int)) - 1 = -1 := rfl
    rw [hkk]
    go_wp2_with (fail)
    go_ret
    exact ⟨rfl, .inl ⟨rfl, HC1.out⟩⟩
  obtain ⟨k, rfl⟩ : ∃ k, n = k + 1 := ⟨n - 1, by omega⟩
  have hk : k < ms.length := by omega
  have hkk : (((k + 1 : Nat) : Int)) - 1 = (k : Int) := by omega
  rw [hkk]
  have hk0 : (0 : Int) ≤ (k : Int) := by omega
  have hk2 : ¬ (k : Int) < 0 := by omega
  have hk1 : (k : Int) < (ms.length : Int) := by omega
  have HR := Lib.hid (Rd.of_own HH1.out.row)
  have hM := Lib.hid ((hV.at_ (List.getElem_mem hk)).m0)
  obtain ⟨s, HS⟩ : ∃ s, Hid (seenV (ms[k]).v ⟨sm, sc⟩ = s) := ⟨_, Lib.hid rfl⟩
  have HT2 : Hid (r = if s then k else k + 1) := by
    have h := HT.out
    rw [if_neg h0, Nat.add_sub_cancel, List.getD_eq_getElem?_getD, List.getElem?_eq_getElem (by rw [List.length_map]; exact hk), List.getElem_map, Option.getD_some, HS.out, decide_eq_true (by omega : 0 < k + 1), Bool.true_and] at h
    exact h
  have hcap := own_cap HH1.out.row
  obtain ⟨ad, hAd, had, hc0, hc⟩ := HR.out.getV hk
  have hc1 := hc 1 _ (by omega) rfl
  have hc2 := hc 2 _ (by omega) rfl
  have hc3 := hc 3 _ (by omega) rfl
  have hc4 := hc 4 _ (by omega) rfl
  have hc5 := hc 5 _ (by omega) rfl
  subst hAd
  generalize ms[k] = y at *
  clear hc HT hkk h0
  obtain ⟨m, q, o, A', d, p, g, t⟩ := y
  simp only [VrV.v] at hc0 hc1 hc2 hc3 hc4 hc5 HS hM
  have HSE := HS
  have KK : Hid (∀ w', Chg [] w1 w' → w'.cell? ⟨gn, 0, none⟩ = some (.slice (some ad) ms.length c) ∧ w'.cell? (ad.add (k * 6)) = some (.int .i64 m) ∧ w'.cell? ⟨(ad.add (k * 6)).block, (ad.add (k * 6)).off + 1, none⟩ = some (.int .i64 q) ∧ w'.cell? ⟨(ad.add (k * 6)).block, (ad.add (k * 6)).off + 2, none⟩ = some (.int .i64 o) ∧ w'.cell? ⟨(ad.add (k * 6)).block, (ad.add (k * 6)).off + 3, none⟩ = some (.slice A' d.length p) ∧ w'.cell? ⟨(ad.add (k * 6)).block, (ad.add (k * 6)).off + 4, none⟩ = some (.bool g) ∧ w'.cell? ⟨(ad.add (k * 6)).block, (ad.add (k * 6)).off + 5, none⟩ = some (.int .i64 t) ∧ w'.cell? ⟨gs, 0, none⟩ = some (.int .i64 sm) ∧ w'.cell? ⟨gs, 1, none⟩ = some (.int .i64 sc)) := fun w' hc => ⟨(HH1.out.at_.keep hc (by simp)).cell 0, (hc.cell (by rw [add_block]; exact had) (by simp)).trans hc0, (hc.cell (p := ⟨(ad.add (k * 6)).block, (ad.add (k * 6)).off + 1, none⟩) (by show (ad.add (k * 6)).block < _; rw [add_block]; exact had) (by simp)).trans hc1, (hc.cell (p := ⟨(ad.add (k * 6)).block, (ad.add (k * 6)).off + 2, none⟩) (by show (ad.add (k * 6)).block < _; rw [add_block]; exact had) (by simp)).trans hc2, (hc.cell (p := ⟨(ad.add (k * 6)).block, (ad.add (k * 6)).off + 3, none⟩) (by show (ad.add (k * 6)).block < _; rw [add_block]; exact had) (by simp)).trans hc3, (hc.cell (p := ⟨(ad.add (k * 6)).block, (ad.add (k * 6)).off + 4, none⟩) (by show (ad.add (k * 6)).block < _; rw [add_block]; exact had) (by simp)).trans hc4, (hc.cell (p := ⟨(ad.add (k * 6)).block, (ad.add (k * 6)).off + 5, none⟩) (by show (ad.add (k * 6)).block < _; rw [add_block]; exact had) (by simp)).trans hc5, (HX1.out.keep hc (by simp)).cell 0, (HX1.out.keep hc (by simp)).cell 1⟩
  clear hc0 hc1 hc2 hc3 hc4 hc5
  go_upto_region 4 with (fail)
  refine wp_region_held_drew (S := fun w' => w'.cell? ⟨gn, 0, none⟩ = some (.slice (some ad) ms.length c) ∧ w'.cell? (ad.add (k * 6)) = some (.int .i64 m) ∧ w'.cell? ⟨(ad.add (k * 6)).block, (ad.add (k * 6)).off + 1, none⟩ = some (.int .i64 q) ∧ w'.cell? ⟨(ad.add (k * 6)).block, (ad.add (k * 6)).off + 2, none⟩ = some (.int .i64 o) ∧ w'.cell? ⟨(ad.add (k * 6)).block, (ad.add (k * 6)).off + 3, none⟩ = some (.slice A' d.length p) ∧ w'.cell? ⟨(ad.add (k * 6)).block, (ad.add (k * 6)).off + 4, none⟩ = some (.bool g) ∧ w'.cell? ⟨(ad.add (k * 6)).block, (ad.add (k * 6)).off + 5, none⟩ = some (.int .i64 t) ∧ w'.cell? ⟨gs, 0, none⟩ = some (.int .i64 sm) ∧ w'.cell? ⟨gs, 1, none⟩ = some (.int .i64 sc)) (by kernel_rfl) ?_ (fun hHeld => ?_)
  · exact KK.out _ ((Chg.refl [] w1).drewN 1)
  refine takeW (i := 0) (d := (some 11)) (v := ?_) rfl rfl (by kernel_rfl) (by kernel_rfl) (by kernel_rfl) (fun _ _ _ h => h) (by rfl) ?_ (by assumption) ?_
  rotate_left
  · intro w' hSw; (try dsimp only at hSw); go_simp; try with_reducible rfl
  try simp only [Act.put, List.setIfInBounds_toArray, List.set_cons_zero, List.set_cons_succ]
  refine takeW (i := 1) (d := (some 12)) (v := ?_) rfl rfl (by kernel_rfl) (by kernel_rfl) (by kernel_rfl) (fun _ _ _ h => h) (by rfl) ?_ (by assumption) ?_
  rotate_left
  · intro w' hSw; (try dsimp only at hSw); go_simp; try with_reducible rfl
  try simp only [Act.put, List.setIfInBounds_toArray, List.set_cons_zero, List.set_cons_succ]
  refine takeW (i := 2) (d := (some 13)) (v := ?_) rfl rfl (by kernel_rfl) (by kernel_rfl) (by kernel_rfl) (fun _ _ _ h => h) (by rfl) ?_ (by assumption) ?_
  rotate_left
  · intro w' hSw; (try dsimp only at hSw); go_simp; try with_reducible rfl
  try simp only [Act.put, List.setIfInBounds_toArray, List.set_cons_zero, List.set_cons_succ]
  refine takeW (i := 3) (d := (some 14)) (v := ?_) rfl rfl (by kernel_rfl) (by kernel_rfl) (by kernel_rfl) (fun _ _ _ h => h) (by rfl) ?_ (by assumption) ?_
  rotate_left
  · intro w' hSw; (try dsimp only at hSw); go_simp; try with_reducible rfl
  try simp only [Act.put, List.setIfInBounds_toArray, List.set_cons_zero, List.set_cons_succ]
  refine takeW (i := 4) (d := (some 15)) (v := ?_) rfl rfl (by kernel_rfl) (by kernel_rfl) (by kernel_rfl) (fun _ _ _ h => h) (by rfl) ?_ (by assumption) ?_
  rotate_left
  · intro w' hSw; (try dsimp only at hSw); go_simp; try with_reducible rfl
  try simp only [Act.put, List.setIfInBounds_toArray, List.set_cons_zero, List.set_cons_succ]
  refine takeW (i := 5) (d := (some 16)) (v := ?_) rfl rfl (by kernel_rfl) (by kernel_rfl) (by kernel_rfl) (fun _ _ _ h => h) (by rfl) ?_ (by assumption) ?_
  rotate_left
  · intro w' hSw; (try dsimp only at hSw); go_simp; try with_reducible rfl
  try simp only [Act.put, List.setIfInBounds_toArray, List.set_cons_zero, List.set_cons_succ]
  refine takeW (i := 6) (d := (some 17)) (v := ?_) rfl rfl (by kernel_rfl) (by kernel_rfl) (by kernel_rfl) (fun _ _ _ h => h) (by rfl) ?_ (by assumption) ?_
  rotate_left
  · intro w' hSw; (try dsimp only at hSw); go_simp; try with_reducible rfl
  try simp only [Act.put, List.setIfInBounds_toArray, List.set_cons_zero, List.set_cons_succ]
  refine takeW (i := 7) (d := (some 18)) (v := ?_) rfl rfl (by kernel_rfl) (by kernel_rfl) (by kernel_rfl) (fun _ _ _ h => h) (by rfl) ?_ (by assumption) ?_
  rotate_left
  · intro w' hSw; (try dsimp only at hSw); go_simp; try with_reducible rfl
  try simp only [Act.put, List.setIfInBounds_toArray, List.set_cons_zero, List.set_cons_succ]
  refine wpAnyH_ready (rs := [8]) (by kernel_rfl) (by simp) ?_
  refine AllReadyH.cons rfl (fun K hK => ?_) AllReadyH.nil
  go_simp
  go_at_call 43
  (with_reducible refine (refSeen_any _ m q o A' d.length p g t sm sc hM.out.1 hM.out.2 hs d).mono ?_)
  rintro e w3 ⟨rfl, hch3⟩
  rw [HSE.out]
  have hch23 : Hid (Chg [] w1 w3) := ((by repeat' (first | (with_reducible assumption) | (with_reducible exact Chg.refl _ _) | (with_reducible refine Chg.alloc ?_ _) | (with_reducible refine Chg.drewN ?_ _) | (with_reducible refine Chg.drew ?_) | (with_reducible refine Chg.strW ?_ _ _) | (with_reducible refine Chg.t0 ?_ (by with_reducible assumption)))) : Chg [] w1 w3)
  go_wp2_with (fail)
  refine hK.out _ _ ?_ (fun hHeld => ?_)
  · first | exact KK.out _ hch23.out | (dsimp only; exact KK.out _ hch23.out)
  clear hK K
  try simp only [Act.put, List.setIfInBounds_toArray, List.set_cons_zero, List.set_cons_succ]
  refine takeW (i := 9) (d := (some 20)) (v := ?_) rfl rfl (by kernel_rfl) (by kernel_rfl) (by kernel_rfl) (fun _ _ _ h => h) (by rfl) ?_ (by assumption) ?_
  rotate_left
  · intro w' hSw; (try dsimp only at hSw); go_simp; try with_reducible rfl
  try simp only [Act.put, List.setIfInBounds_toArray, List.set_cons_zero, List.set_cons_succ]
  refine wpAnyH_done (by kernel_rfl) ?_ _
  cases s
  · obtain rfl : r = k + 1 := HT2.out
    have hsl : ∀ w : World, (Instr.slice 22 (.slice (some ad) ms.length c) (some (.int .i64 ((k : Int) + 1))) none none).run Try.prog w = .ok (.slice (cutA (some ad) c (k + 1) 6) (ms.length - (k + 1)) (c - (k + 1))) w := fun w => run_slice_lo w Try.underlying22 hi1 hy1 (some ad) ms.length c ((k : Int) + 1) (k + 1) rfl (by omega)
    have HR3 := Lib.hid ((HR.out.keep0 hch23.out).cutR (k := k + 1) (cap := c) (by omega) hcap)
    have hA3 := Lib.hid (HH1.out.at_.keep hch23.out (by simp))
    have a0 := hA3.out.cell 0
    have b0 := (hA3.out.al (.cells #[] 28)).cell 0
    simp only [List.getElem?_toArray, List.getElem?_cons_zero, List.getElem?_cons_succ] at a0 b0
    have HC3 := Lib.hid (HC1.out.trans hch23.out (by simp))
    clear KK hch23 hch3
    go_wp2_with (at_builtin; refine wpList_append_rd _ rfl (.tmp 24) (.tmp 30) 22 (by rfl) w3.heap.size 28 i1 _ 6 64 Try.underlying22 hi1 hy0 hy1 hy2 rfl (by omega) (.slice (some ⟨w3.heap.size, 0, none⟩) 0 0) 0 [] (by rfl) (World.ownsRow_made w3 #[] 0 (Nat.le_refl _) (by simp [maxLen]) rfl) (cutA (some ad) c (k + 1) 6) (ms.length - (k + 1)) (c - (k + 1)) ((cVr ms).drop ((k + 1) * 6)) (by rfl) (HR3.out.alloc _) (fun u hu => cVr_one ms u (List.mem_of_mem_drop hu)) (by unfold maxLen; omega) (by omega) (by simp) ?_; intro A6 c6 w6 hown6 hg6 hb6; simp only [Nat.zero_add, List.nil_append] at hown6 ⊢; have hc6 : Chg [] w3 w6 := ((Chg.refl [] w3).alloc _).grown hg6 (fun k hk => .inr (by simp [Value.ownBlock] at hk; omega)); have HD := Lib.hid (trim_done (n := k + 1) H ref_ne.1 ref_ne.2 (HC3.out.trans hc6 (by simp)) hown6 HC3.out.size); have g6 := (hA3.out.keep hc6 (by simp)).cell 0; have f6 := (hA3.out.keep hc6 (by simp)).free 0; clear hown6 hg6 hb6 hc6 a0 b0 hsl)
    go_ret
    exact ⟨rfl, .inr ⟨_, _, HD.out⟩⟩
  · obtain rfl : k = r := HT2.out.symm
    have hsl : ∀ w : World, (Instr.slice 22 (.slice (some ad) ms.length c) (some (.int .i64 ((k : Int)))) none none).run Try.prog w = .ok (.slice (cutA (some ad) c (k) 6) (ms.length - (k)) (c - (k))) w := fun w => run_slice_lo w Try.underlying22 hi1 hy1 (some ad) ms.length c ((k : Int)) (k) rfl (by omega)
    have HR3 := Lib.hid ((HR.out.keep0 hch23.out).cutR (k := k) (cap := c) (by omega) hcap)
    have hA3 := Lib.hid (HH1.out.at_.keep hch23.out (by simp))
    have a0 := hA3.out.cell 0
    have b0 := (hA3.out.al (.cells #[] 28)).cell 0
    simp only [List.getElem?_toArray, List.getElem?_cons_zero, List.getElem?_cons_succ] at a0 b0
    have HC3 := Lib.hid (HC1.out.trans hch23.out (by simp))
    clear KK hch23 hch3
    go_wp2_with (at_builtin; refine wpList_append_rd _ rfl (.tmp 24) (.tmp 30) 22 (by rfl) w3.heap.size 28 i1 _ 6 64 Try.underlying22 hi1 hy0 hy1 hy2 rfl (by omega) (.slice (some ⟨w3.heap.size, 0, none⟩) 0 0) 0 [] (by rfl) (World.ownsRow_made w3 #[] 0 (Nat.le_refl _) (by simp [maxLen]) rfl) (cutA (some ad) c (k) 6) (ms.length - (k)) (c - (k)) ((cVr ms).drop ((k) * 6)) (by rfl) (HR3.out.alloc _) (fun u hu => cVr_one ms u (List.mem_of_mem_drop hu)) (by unfold maxLen; omega) (by omega) (by simp) ?_; intro A6 c6 w6 hown6 hg6 hb6; simp only [Nat.zero_add, List.nil_append] at hown6 ⊢; have hc6 : Chg [] w3 w6 := ((Chg.refl [] w3).alloc _).grown hg6 (fun k hk => .inr (by simp [Value.ownBlock] at hk; omega)); have HD := Lib.hid (trim_done (n := k) H ref_ne.1 ref_ne.2 (HC3.out.trans hc6 (by simp)) hown6 HC3.out.size); have g6 := (hA3.out.keep hc6 (by simp)).cell 0; have f6 := (hA3.out.keep hc6 (by simp)).free 0; clear hown6 hg6 hb6 hc6 a0 b0 hsl)
    go_ret
    exact ⟨rfl, .inr ⟨_, _, HD.out⟩⟩
section
variable {w0 w w' : World} {gn : Nat} {l : List VV} {rs : List Res}
theorem putR_all (h : ChA 55 w0 w gn l rs) (hl : l.length ≤ 1000000) (hr : Rise l) (xm xc xo : Int) (xA : Option Addr) (xp : Nat) (xg : Bool) (xt : Int) (xd : List UInt8) (hxr : Rd w 1 xA xd.length (cB xd)) (hxl : xd.length ≤ 1099511627776) :
    Calls Try.prog 16 #[.pointer (some ⟨gn, 0, none⟩), .agg #[.int .i64 xm, .int .i64 xc, .int .i64 xo, .slice xA xd.length xp, .bool xg, .int .i64 xt]] w fun e w' => e = .returned (.int .i64 (putE l ⟨xm, xc, xo, xd, xg, xt⟩)) ∧ ChA 55 w0 w' gn (putL l ⟨xm, xc, xo, xd, xg, xt⟩) rs := by
  obtain ⟨A, c, ms, rfl, H⟩ := h
  have hP := H.get 0 rfl
  rw [List.length_map] at hl
  refine (putR_raw w gn A c ms hP hl hr xm xc xo xA xp xg xt xd hxr hxl).mono ?_
  rintro e w1 ⟨rfl, h1 | h1⟩
  · refine ⟨rfl, A, c, ms, ?_, H.quiet h1.2⟩
    unfold putL; rw [if_neg h1.1]
  · obtain ⟨h0, A', c', A5, c5, h2, hc, hA, h5⟩ := h1
    refine ⟨rfl, A', c', _, ?_, ChP.head H ref_ne.1 ref_ne.2 (hc.mono (fun j hj => .inl ?_)) h2 (fun j hj => ?_) ?_⟩
    · unfold putL insV
      rw [if_pos h0, List.map_append, List.map_cons, List.map_take, List.map_drop]; rfl
    · rcases List.mem_cons.1 hj with rfl | hj
      · exact List.mem_cons_self
      · exact List.mem_cons_of_mem _ (List.mem_append_left _ hj)
    · rcases List.mem_append.1 hj with hj | hj
      · exact (hA j hj).imp (List.mem_append_left _) id
      · rcases List.mem_append.1 ((datV_ins _ _ _).mem_iff.1 hj) with hj | hj
        · exact .inl (List.mem_append_right _ hj)
        · exact .inr (h5 j hj)
    · refine (datV_ins _ _ _).nodup_iff.2 (List.nodup_append.2 ⟨rCh_datV H, blk_nodup _, fun a ha b hb hab => ?_⟩)
      subst hab
      have h6 := h5 a hb
      have h7 := hP.toVsP.lt a (List.mem_append_right _ ha)
      omega
theorem trimR_all (h : ChA 55 w0 w gn l rs) (hl : l.length ≤ 1000000) (hG : Good l) (sm sc : Int) (hs : sm ≤ 9223372036854775807) :
    Calls Try.prog 27 #[.pointer (some ⟨gn, 0, none⟩), .agg #[.int .i64 sm, .int .i64 sc]] w fun e w' => e = .returned (.int .i64 (trimN l ⟨sm, sc⟩)) ∧ ChA 55 w0 w' gn (l.drop (trimN l ⟨sm, sc⟩)) rs := by
  obtain ⟨A, c, ms, rfl, H⟩ := h
  have hP := H.get 0 rfl
  rw [List.length_map] at hl
  refine (trimR_raw w gn A c ms hP hl hG.rise hG.valid sm sc hs).mono ?_
  rintro e w1 ⟨rfl, h1 | ⟨A', c', h2, hc, hA⟩⟩
  · exact ⟨rfl, A, c, ms, by rw [h1.1]; rfl, H.quiet h1.2⟩
  · have hsub : (datV (ms.drop (trimN (ms.map VrV.v) ⟨sm, sc⟩))).Sublist (datV ms) := by
      have h3 : datV ms = datV (ms.take (trimN (ms.map VrV.v) ⟨sm, sc⟩)) ++ datV (ms.drop (trimN (ms.map VrV.v) ⟨sm, sc⟩)) := by
        have h4 : datV ms = datV (ms.take (trimN (ms.map VrV.v) ⟨sm, sc⟩) ++ ms.drop (trimN (ms.map VrV.v) ⟨sm, sc⟩)) := by rw [List.take_append_drop]
        rw [h4]; simp only [datV, List.flatMap_append]
      rw [h3]; exact List.sublist_append_right _ _
    refine ⟨rfl, A', c', _, by rw [List.map_drop], ChP.head H ref_ne.1 ref_ne.2 (hc.mono (fun j hj => .inl ?_)) h2 (fun j hj => ?_) (List.Pairwise.sublist hsub (rCh_datV H))⟩
    · obtain rfl := List.mem_singleton.1 hj; exact List.mem_cons_self
    · rcases List.mem_append.1 hj with hj | hj
      · exact .inr (hA j hj)
      · exact .inl (List.mem_append_right _ (hsub.subset hj))
theorem atR_all (h : ChA 55 w0 w gn l rs) (hl : l.length ≤ 1000000) (hG : Good l) (sm sc : Int) :
    Calls Try.prog 22 #[.pointer (some ⟨gn, 0, none⟩), .agg #[.int .i64 sm, .int .i64 sc]] w (AtRPost (atX l ⟨sm, sc⟩) (atB l ⟨sm, sc⟩) w) := by
  obtain ⟨A, c, ms, rfl, H⟩ := h
  rw [List.length_map] at hl
  exact atR_raw w gn A c ms (H.get 0 rfl) hl hG.rise sm sc
theorem getR_all (h : ChA 55 w0 w gn l rs) (hl : l.length ≤ 1000000) (hG : Good l) (sm sc : Int) (hs : sm ≤ 9223372036854775807) :
    Calls Try.prog 24 #[.pointer (some ⟨gn, 0, none⟩), .agg #[.int .i64 sm, .int .i64 sc]] w (GetRPost (getD l ⟨sm, sc⟩) (getB l ⟨sm, sc⟩) w) := by
  obtain ⟨A, c, ms, rfl, H⟩ := h
  rw [List.length_map] at hl
  exact getR_raw w gn A c ms (H.get 0 rfl) hl hG.rise hG.valid sm sc hs
end
end Go.Proofs.Ytmliclfepnebfaa
namespace Go.Proofs.Ytmliclfepnebfaa
open Go.RowKit
set_option linter.unusedVariables false
set_option linter.unusedSimpArgs false
set_option maxRecDepth 100000 in
set_option maxHeartbeats 6400000 in
theorem ofRef_any (w : World) (A : Option Addr) (c : Nat) (ls : List VrV) (HL : Laid w A ls) (hn : ls.length ≤ 1000000) :
    Calls Try.prog 12 #[.slice A ls.length c] w (OfPost 55 (ls.map VrV.v) w) := by
  have HS : Hid (ChA 55 w (w.alloc (.cells #[.slice none 0 0] 55)) w.heap.size [] []) := ChA.start (All.start w) rfl
  go_enter Try.func12, Try.ntmps12
  go_wp2_with (fail)
  generalize hwz : w.alloc (.cells #[.slice none 0 0] 55) = wz at *
  generalize hgn : w.heap.size = gn at *
  go_loopw [5] (fun i wr => ∃ (k : Nat) (acc : List VV), k ≤ ls.length ∧ i = .int .i64 k ∧ Hid (ofR acc ((ls.map VrV.v).drop k) = ofR [] (ls.map VrV.v)) ∧ Hid (Good acc ∧ acc.length ≤ k) ∧ Hid (ChA 55 w wr gn acc [])) (fun i _ => ls.length - (intOf i).toNat)
  case atStart => exact ⟨0, [], Nat.zero_le _, rfl, rfl, ⟨Good.nil, Nat.le_refl _⟩, HS⟩
  case round =>
    obtain ⟨k, acc, hk, rfl, HR, HG, HC⟩ := hrel
    by_cases hlt : k < ls.length
    · have HLk := HL.keep HC.out.chg
      have HD := Lib.hid (HLk.dat _ (List.getElem_mem hlt))
      have hnil := HLk.nil_ _ (List.getElem_mem hlt)
      have hdl := HLk.len _ (List.getElem_mem hlt)
      obtain ⟨ad, hAd, had, hc0, hc⟩ := HLk.rd.getV hlt
      have hc1 := hc 1 _ (by omega) rfl
      have hc2 := hc 2 _ (by omega) rfl
      have hc3 := hc 3 _ (by omega) rfl
      have hc4 := hc 4 _ (by omega) rfl
      have hc5 := hc 5 _ (by omega) rfl
      have hki : (k : Int) < (ls.length : Int) := by omega
      have hk0 : (0 : Int) ≤ (k : Int) := by omega
      have hdr : (ls.map VrV.v).drop k = (ls[k]).v :: (ls.map VrV.v).drop (k + 1) := by
        rw [List.drop_eq_getElem_cons (by rw [List.length_map]; exact hlt), List.getElem_map]
      rw [hdr] at HR
      generalize hrest : (ls.map VrV.v).drop (k + 1) = rest at *
      clear hdr HLk
      generalize ls[k] = y at *
      clear hc
      obtain ⟨m, q, o, A', d, p, g, t⟩ := y
      simp only [VrV.v] at hc0 hc1 hc2 hc3 hc4 hc5 HD hdl hnil HR
      subst hAd
      have HCB := HC
      have HPU := Lib.hid (putR_all HCB.out (by have := HG.out.2; omega) HG.out.1.rise m q o A' p g t d HD.out hdl)
      clear HCB HD
      go_wp2_with (fail)
      refine HPU.out.mono ?_
      rintro e w5 ⟨rfl, h5⟩
      have H5 := Lib.hid h5
      clear h5 HPU hc0 hc1 hc2 hc3 hc4 hc5
      obtain ⟨pe, HPE⟩ : ∃ pe, Hid (putE acc ⟨m, q, o, d, g, t⟩ = pe) := ⟨_, Lib.hid rfl⟩
      rw [HPE.out]
      by_cases h0 : pe = 0
      · subst h0
        have HR2 : Hid (ofR (putL acc ⟨m, q, o, d, g, t⟩) rest = ofR [] (ls.map VrV.v)) := by
          rw [← HR.out]; show _ = ofR acc (_ :: rest); rw [ofR, if_pos HPE.out]
        go_wp2_with (fail)
        go_roundw
        case rel => exact ⟨k + 1, putL acc ⟨m, q, o, d, g, t⟩, by omega, by go_num, by rw [hrest]; exact HR2.out, ⟨HG.out.1.put _, by have := putL_len acc ⟨m, q, o, d, g, t⟩; have := HG.out.2; omega⟩, H5.out⟩
        case measure => simp [intOf]; omega
      · have HR2 : Hid ((ofR [] (ls.map VrV.v)).1 = pe) := by
          rw [← HR.out]; show (ofR acc (_ :: rest)).1 = _; rw [ofR, if_neg (by rw [HPE.out]; exact h0)]; exact HPE.out
        have hb : (pe != 0) = true := by rw [bne_iff_ne]; exact h0
        go_wp2_with (fail)
        go_ret2
        exact .inr ⟨by rw [HR2.out]; exact h0, by rw [HR2.out]; rfl, H5.out.chg⟩
    · obtain rfl : k = ls.length := by omega
      have hki : ¬ (ls.length : Int) < (ls.length : Int) := by omega
      have HR2 : Hid (ofR [] (ls.map VrV.v) = (0, acc)) := by
        rw [← HR.out, List.drop_of_length_le (by rw [List.length_map]; exact Nat.le_refl _)]; rfl
      go_wp2_with (fail)
      go_ret2
      exact .inl ⟨by rw [HR2.out], gn, rfl, by rw [HR2.out]; exact HC.out, by rw [HR2.out]; exact HG.out.1, by rw [HR2.out, List.length_map]; exact HG.out.2⟩
end Go.Proofs.Ytmliclfepnebfaa
namespace Go.Proofs.Ytmliclfepnebfaa
open Go.RowKit
attribute [local go_sem ↓] Go.wp_at_zero Go.wp_at_succ
attribute [local go_sem ↓] run_min2 run_max2

set_option maxHeartbeats 1600000 in
theorem refMax_any (w : World) (A : Option Addr) (n c : Nat) (l : List St) (hn : l.length = n) (hr : Rd w 2 A l.length (cS l)) (hl : l.length ≤ 4611686018427387904) :
    Calls Try.prog 30 #[.slice A n c] w fun e w' => e = .returned (.agg #[.int .i64 (maxS l).m, .int .i64 (maxS l).c]) ∧ Chg [] w w' := by
  subst hn
  go_enter Try.func30, Try.ntmps30
  go_wp2_with (fail)
  go_loopw [4] (fun i wr => ∃ k : Nat, k ≤ l.length ∧ i = .int .i64 k ∧ At wr w.heap.size 25 #[.int .i64 0, .int .i64 0] ∧ At wr (w.heap.size + 1) 25 #[.int .i64 (maxS (l.take k)).m, .int .i64 (maxS (l.take k)).c] ∧ Chg [] w wr) (fun i _ => l.length - (intOf i).toNat)
  case atStart => exact ⟨0, Nat.zero_le _, rfl, (At.new _ _ _).keep ((Chg.refl [] _).alloc _) (by simp), (by simpa [maxS, St.z] using At.new (w.alloc (.cells #[.int .i64 0, .int .i64 0] 25)) 25 #[.int .i64 0, .int .i64 0]), ((Chg.refl _ _).alloc _).alloc _⟩
  case round =>
    obtain ⟨k, hk, rfl, h2, h3, hch⟩ := hrel
    by_cases hlt : k < l.length
    · obtain ⟨ad, rfl, had, hc0, hc1⟩ := (hr.keep0 hch).getS hlt
      have HT : Hid (l.take (k + 1) = l.take k ++ [l[k]]) := List.take_succ_eq_append_getElem hlt
      generalize l[k] = s at *
      have hs1 := h3.lt
      have ha0 := h3.cell 0
      have ha1 := h3.cell 1
      have hf0 := h3.free 0
      have hf1 := h3.free 1
      have i0 : (0 : Int) ≤ (k : Int) := by omega
      have i1 : (k : Int) < (l.length : Int) := by omega
      by_cases hk0 : k = 0
      · have e0 : ((k : Int) == 0) = true := by simp [hk0]
        have HK := Lib.hid hk0
        clear hk0
        go_wp2_with (fail)
        go_quiet (fail)
        go_wp2_with (fail)
        go_roundw
        case rel =>
          have hm : maxS (l.take (k + 1)) = s := by rw [HT.out, HK.out]; rfl
          refine ⟨k + 1, by omega, by go_num, (h2.drewN _).keep ((Chg.refl [w.heap.size + 1] _).set2 (.inl (by simp)) _ _) (by simp), ?_, (hch.drewN _).set2 (.inr (by omega)) _ _⟩
          rw [hm]
          exact (h3.drewN _).set2 _ _
        case measure => simp [intOf]; omega
      · have e0 : ((k : Int) == 0) = false := beq_eq_false_iff_ne.2 (by omega)
        have Hm : Hid (maxS (l.take (k + 1)) = maxS2 (maxS (l.take k)) s) := by unfold Hid; rw [HT.out, maxS_snoc (by simp; omega)]
        clear hk0
        go_wp2_with (fail)
        go_region_held3 (fun w' => w'.cell? (ad.add (k * 2)) = some (.int .i64 s.m) ∧ w'.cell? ⟨(ad.add (k * 2)).block, (ad.add (k * 2)).off + 1, none⟩ = some (.int .i64 s.c) ∧ w'.cell? ⟨w.heap.size + 1, 0, none⟩ = some (.int .i64 (maxS (l.take k)).m) ∧ w'.cell? ⟨w.heap.size + 1, 1, none⟩ = some (.int .i64 (maxS (l.take k)).c)) (go_keep)
          ((go_at_call 31; refine (refCompare_any _ _ _ _ _).mono ?_; rintro e w3 ⟨rfl, hch3a⟩; have hch3 : Chg [] wr w3 := (Chg.refl _ wr).drew.trans hch3a (by simp); have hc0' := (hch3.cell (p := ad.add (k * 2)) (by rw [add_block]; exact had) (by simp)).trans hc0; have hc1' := (hch3.cell (p := ⟨(ad.add (k * 2)).block, (ad.add (k * 2)).off + 1, none⟩) (by rw [add_block]; exact had) (by simp)).trans hc1; have h33 := h3.keep hch3 (by simp); have hb0 := h33.cell 0; have hb1 := h33.cell 1; have hg0 := h33.free 0; have hg1 := h33.free 1))
        have hch4 := hch.trans hch3 (by simp)
        have h23 := h2.keep hch3 (by simp)
        clear hc0 hc1 ha0 ha1 hf0 hf1
        by_cases hgt : 0 < cmpS ⟨s.m, s.c⟩ ⟨(maxS (l.take k)).m, (maxS (l.take k)).c⟩
        · have Hgt := Lib.hid hgt
          go_wp2_with (fail)
          go_roundw
          case rel =>
            have hm : maxS (l.take (k + 1)) = s := by rw [Hm.out]; unfold maxS2; rw [if_pos Hgt.out]
            refine ⟨k + 1, by omega, by go_num, h23.keep ((Chg.refl [w.heap.size + 1] _).set2 (.inl (by simp)) _ _) (by simp), ?_, hch4.set2 (.inr (by omega)) _ _⟩
            rw [hm]
            exact h33.set2 _ _
          case measure => simp [intOf]; omega
        · have Hgt := Lib.hid hgt
          go_wp2_with (fail)
          go_roundw
          case rel =>
            have hm : maxS (l.take (k + 1)) = maxS (l.take k) := by rw [Hm.out]; unfold maxS2; exact if_neg Hgt.out
            refine ⟨k + 1, by omega, by go_num, h23, ?_, hch4⟩
            rw [hm]
            exact h33
          case measure => simp [intOf]; omega
    · obtain rfl : k = l.length := by omega
      have HT : Hid (l.take l.length = l) := by unfold Hid; rw [List.take_length]
      rw [HT.out] at h3
      have ha0 := h3.cell 0
      have ha1 := h3.cell 1
      have hb0 := h2.cell 0
      have hb1 := h2.cell 1
      have hf0 := h2.free 0
      have hf1 := h2.free 1
      go_wp2_with (fail)
      exact ret_st Try.results30 rfl (h2.set2 _ _) ⟨rfl, hch.set2 (.inr (by omega)) _ _⟩

theorem refMax_to (w : World) (A : Option Addr) (n c : Nat) (l : List St) {m d : Int} (h : maxS l = ⟨m, d⟩) (hn : l.length = n) (hr : Rd w 2 A l.length (cS l)) (hl : l.length ≤ 4611686018427387904) :
    Calls Try.prog 30 #[.slice A n c] w fun e w' => e = .returned (.agg #[.int .i64 m, .int .i64 d]) ∧ Chg [] w w' := by
  have h1 := refMax_any w A n c l hn hr hl
  rw [h] at h1
  exact h1
end Go.Proofs.Ytmliclfepnebfaa
