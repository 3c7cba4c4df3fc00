
/-
  chain: own (the reference's), Order; slices.Clone.
-/
import Derived.Test.YtmliclfepnebfaaChK
namespace Go.Proofs.Ytmliclfepnebfaa
open Go.RowKit
set_option linter.unusedVariables false
set_option linter.unusedSimpArgs false
set_option maxRecDepth 100000 in
set_option maxHeartbeats 3200000 in
theorem ownR_any (w : World) (m c o : Int) (A : Option Addr) (p : Nat) (g : Bool) (t : Int) (d : List UInt8) (hr : Rd w 1 A d.length (cB d)) (hdl : d.length ≤ 1099511627776) :
    Calls Try.prog 38 #[.agg #[.int .i64 m, .int .i64 c, .int .i64 o, .slice A d.length p, .bool g, .int .i64 t]] w fun e w' => ∃ A5 c5, e = .returned (.agg #[.int .i64 m, .int .i64 c, .int .i64 o, .slice A5 d.length c5, .bool g, .int .i64 t]) ∧ w'.ownsRow w.heap.size 5 1 (.slice A5 d.length c5) d.length (cB d) ∧ Chg [] w w' := by
  have q0 := ((Chg.refl [] w).alloc (.cells #[.int .i64 m, .int .i64 c, .int .i64 o, .slice A d.length p, .bool g, .int .i64 t] 28)).alloc (.cells #[.int .i64 0, .int .i64 0, .int .i64 0, .slice none 0 0, .bool false, .int .i64 0] 28)
  have z0 := (At.new w 28 #[.int .i64 m, .int .i64 c, .int .i64 o, .slice A d.length p, .bool g, .int .i64 t]).al (.cells #[.int .i64 0, .int .i64 0, .int .i64 0, .slice none 0 0, .bool false, .int .i64 0] 28)
  have z1 := At.newG (w.alloc (.cells #[.int .i64 m, .int .i64 c, .int .i64 o, .slice A d.length p, .bool g, .int .i64 t] 28)) 28 #[.int .i64 0, .int .i64 0, .int .i64 0, .slice none 0 0, .bool false, .int .i64 0] (g := w.heap.size + 1) (by simp)
  obtain ⟨i8, hi8, hz0, hz1, hz2⟩ := info_parts info_u8c
  have HR := Lib.hid (hr.keep0 q0)
  have x3 := z0.cell 3
  simp only [List.getElem?_toArray, List.getElem?_cons_zero, List.getElem?_cons_succ] at x3
  have HZ0 := Lib.hid z0
  have HZ1 := Lib.hid z1
  have HQ := Lib.hid q0
  clear z0 z1 q0 hr
  go_enter Try.func38, Try.ntmps38
  obtain ⟨wz, HWZ⟩ : ∃ wz, Hid ((w.alloc (.cells #[.int .i64 m, .int .i64 c, .int .i64 o, .slice A d.length p, .bool g, .int .i64 t] 28)).alloc (.cells #[.int .i64 0, .int .i64 0, .int .i64 0, .slice none 0 0, .bool false, .int .i64 0] 28) = wz) := ⟨_, rfl⟩
  rw [HWZ.out] at HR HQ HZ0 HZ1 x3
  have x3' : (wz.alloc (.cells #[] 5)).cell? ⟨w.heap.size, 3, none⟩ = some (.slice A d.length p) := ((HZ0.out.al (.cells #[] 5)).cell 3).trans rfl
  go_upto_region 1 with (fail)
  rw [HWZ.out]
  generalize hg0 : w.heap.size = g0 at *
  go_upto_region 2 with (at_builtin; refine wpList_append_rd _ rfl (.tmp 3) (.tmp 5) 26 (by rfl) wz.heap.size 5 i8 _ 1 1 Try.underlying26 hi8 hz0 hz1 hz2 rfl (by omega) (.slice (some ⟨wz.heap.size, 0, none⟩) 0 0) 0 [] (by rfl) (World.ownsRow_made wz #[] 0 (Nat.le_refl _) (by simp [maxLen]) rfl) A d.length p (cB d) (by rfl) (HR.out.alloc _) (cB_one _) (by unfold maxLen; omega) (by omega) (by simp) ?_; intro A5 c5 w5 hown5 hg5 hb5; simp only [Nat.zero_add, List.nil_append] at hown5; have hc5 : Chg [] wz w5 := ((Chg.refl [] wz).alloc _).grown hg5 (fun k hk => .inr (by simp [Value.ownBlock] at hk; omega)); have y3 := (HZ0.out.keep hc5 (by simp)).cell 3; have f3 := (HZ0.out.keep hc5 (by simp)).free 3; simp only [List.getElem?_toArray, List.getElem?_cons_zero, List.getElem?_cons_succ] at y3)
  have b5 := HZ0.out.keep hc5 (by simp)
  have r5 := HZ1.out.keep hc5 (by simp)
  have b6 : At (w5.setCell ⟨g0, 3, none⟩ (.slice A5 d.length c5)) g0 28 #[.int .i64 m, .int .i64 c, .int .i64 o, .slice A5 d.length c5, .bool g, .int .i64 t] := by
    have h := b5.set_ 3 (.slice A5 d.length c5)
    simpa using h
  have q6 : Chg [g0] w5 (w5.setCell ⟨g0, 3, none⟩ (.slice A5 d.length c5)) := (Chg.refl _ _).setCell (.inl (by simp)) _
  have r6 := r5.keep q6 (by simp)
  have hzs := HZ0.out.lt
  have hz1 := HZ1.out.lt
  have HO6 : Hid ((w5.setCell ⟨g0, 3, none⟩ (.slice A5 d.length c5)).ownsRow g0 5 1 (.slice A5 d.length c5) d.length (cB d)) := own_up (own_keep hown5 q6 (fun j hj hm => by have := (hown5.lt j hj).1; simp at hm; omega)) (by omega)
  have HA5 : Hid (∀ j, (Value.slice A5 d.length c5).ownBlock = some j → g0 + 1 < j) := fun j hj => by have := (hown5.lt j hj).1; omega
  have HC6 : Hid (Chg [] w (w5.setCell ⟨g0, 3, none⟩ (.slice A5 d.length c5))) := (HQ.out.trans hc5 (by simp)).trans q6 (by simp; omega)
  have HB6 := Lib.hid b6
  have HR6 := Lib.hid r6
  have k0 := b6.cell 0
  have k1 := b6.cell 1
  have k2 := b6.cell 2
  have k3 := b6.cell 3
  have k4 := b6.cell 4
  have k5 := b6.cell 5
  have u0 := r6.cell 0
  have u1 := r6.cell 1
  have u2 := r6.cell 2
  have u3 := r6.cell 3
  have u4 := r6.cell 4
  have u5 := r6.cell 5
  have fu0 := r6.free 0
  have fu1 := r6.free 1
  have fu2 := r6.free 2
  have fu3 := r6.free 3
  have fu4 := r6.free 4
  have fu5 := r6.free 5
  simp only [List.getElem?_toArray, List.getElem?_cons_zero, List.getElem?_cons_succ] at k0 k1 k2 k3 k4 k5 u0 u1 u2 u3 u4 u5
  obtain ⟨w6, HW6⟩ : ∃ w6, Hid (w5.setCell ⟨g0, 3, none⟩ (.slice A5 d.length c5) = w6) := ⟨_, rfl⟩
  rw [HW6.out] at HO6 HC6 HB6 HR6 k0 k1 k2 k3 k4 k5 u0 u1 u2 u3 u4 u5 fu0 fu1 fu2 fu3 fu4 fu5
  clear b5 r5 b6 q6 r6 hown5 hc5 HZ0 HZ1 x3
  rw [HW6.out]
  clear HW6 y3 f3
  go_wp2_with (fail)
  refine ret_ver1 (g := g0 + 1) (T := 28) (cs := #[.int .i64 m, .int .i64 c, .int .i64 o, .slice A5 d.length c5, .bool g, .int .i64 t]) rfl Try.results38 rfl ?_ ?_
  · have h := (((((HR6.out.set_ 0 (.int .i64 m)).set_ 1 (.int .i64 c)).set_ 2 (.int .i64 o)).set_ 3 (.slice A5 d.length c5)).set_ 4 (.bool g)).set_ 5 (.int .i64 t)
    simpa using h
  · have q9 : Chg [g0 + 1] w6 ((((((w6.setCell ⟨g0 + 1, 0, none⟩ (.int .i64 m)).setCell ⟨g0 + 1, 1, none⟩ (.int .i64 c)).setCell ⟨g0 + 1, 2, none⟩ (.int .i64 o)).setCell ⟨g0 + 1, 3, none⟩ (.slice A5 d.length c5)).setCell ⟨g0 + 1, 4, none⟩ (.bool g)).setCell ⟨g0 + 1, 5, none⟩ (.int .i64 t)) := ((((((Chg.refl _ _).setCell (.inl (by simp)) _).setCell (.inl (by simp)) _).setCell (.inl (by simp)) _).setCell (.inl (by simp)) _).setCell (.inl (by simp)) _).setCell (.inl (by simp)) _
    exact ⟨A5, c5, rfl, by rw [hg0]; exact own_keep HO6.out q9 (fun j hj hm => by have := HA5.out j hj; simp at hm; omega), HC6.out.trans q9 (by simp; omega)⟩
set_option maxRecDepth 100000 in
set_option maxHeartbeats 3200000 in
theorem refOrder_any (w : World) (m c o : Int) (A : Option Addr) (n p : Nat) (g : Bool) (t m' c' o' : Int) (A' : Option Addr) (n' p' : Nat) (g' : Bool) (t' : Int) (d d' : List UInt8) :
    Calls Try.prog 37 #[.agg #[.int .i64 m, .int .i64 c, .int .i64 o, .slice A n p, .bool g, .int .i64 t], .agg #[.int .i64 m', .int .i64 c', .int .i64 o', .slice A' n' p', .bool g', .int .i64 t']] w fun e w' => e = .returned (.int .i64 (cmpV ⟨m, c, o, d, g, t⟩ ⟨m', c', o', d', g', t'⟩)) ∧ Chg [] w w' := by
  have q := ((Chg.refl [] w).alloc (.cells #[.int .i64 m, .int .i64 c, .int .i64 o, .slice A n p, .bool g, .int .i64 t] 28)).alloc (.cells #[.int .i64 m', .int .i64 c', .int .i64 o', .slice A' n' p', .bool g', .int .i64 t'] 28)
  have z0 := (At.new w 28 #[.int .i64 m, .int .i64 c, .int .i64 o, .slice A n p, .bool g, .int .i64 t]).al (.cells #[.int .i64 m', .int .i64 c', .int .i64 o', .slice A' n' p', .bool g', .int .i64 t'] 28)
  have z1 := At.newG (w.alloc (.cells #[.int .i64 m, .int .i64 c, .int .i64 o, .slice A n p, .bool g, .int .i64 t] 28)) 28 #[.int .i64 m', .int .i64 c', .int .i64 o', .slice A' n' p', .bool g', .int .i64 t'] (g := w.heap.size + 1) (by simp)
  have HZ0 := Lib.hid z0
  have HZ1 := Lib.hid z1
  have HCW := Lib.hid q
  have x0 := z0.cell 0
  have x1 := z0.cell 1
  have y0 := z1.cell 0
  have y1 := z1.cell 1
  simp only [List.getElem?_toArray, List.getElem?_cons_zero, List.getElem?_cons_succ] at x0 x1 y0 y1
  clear q z0 z1
  obtain ⟨k, HK⟩ : ∃ k, Hid (cmpS ⟨m, c⟩ ⟨m', c'⟩ = k) := ⟨_, rfl⟩
  have HC := Lib.hid (fun w => refCompare_any m c m' c' w)
  rw [HK.out] at HC
  have HV : Hid (cmpV ⟨m, c, o, d, g, t⟩ ⟨m', c', o', d', g', t'⟩ = orI k (cmpI o o')) := by
    unfold Hid cmpV VV.st
    simp only
    rw [HK.out]
  rw [HV.out]
  clear HV HK
  go_enter Try.func37, Try.ntmps37
  go_wp2_with (fail)
  refine (HC.out _).mono ?_
  rintro e w1 ⟨rfl, hc⟩
  have x2 := (HZ0.out.keep hc (by simp)).cell 2
  have y2 := (HZ1.out.keep hc (by simp)).cell 2
  simp only [List.getElem?_toArray, List.getElem?_cons_zero, List.getElem?_cons_succ] at x2 y2
  have HF : Hid (Chg [] w w1) := HCW.out.trans hc (by simp)
  clear HZ0 HZ1 HCW HC hc x0 x1 y0 y1
  by_cases hk : k = 0
  · subst hk
    rcases Int.lt_trichotomy o o' with h | h | h
    · have hv : orI 0 (cmpI o o') = -1 := by unfold orI cmpI; rw [if_pos rfl, if_pos h]
      have hb : decide (o < o') = true := decide_eq_true h
      go_wp2_with (fail)
      go_ret
      exact ⟨by rw [hv]; rfl, HF.out⟩
    · subst h
      have hv : orI 0 (cmpI o o) = 0 := by unfold orI cmpI; rw [if_pos rfl, if_neg (by omega), if_neg (by omega)]
      go_wp2_with (fail)
      go_ret
      exact ⟨by rw [hv]; rfl, HF.out⟩
    · have hv : orI 0 (cmpI o o') = 1 := by unfold orI cmpI; rw [if_pos rfl, if_neg (by omega), if_pos h]
      have hb : decide (o < o') = false := decide_eq_false (by omega)
      have hb2 : decide (o' < o) = true := decide_eq_true h
      go_wp2_with (fail)
      go_ret
      exact ⟨by rw [hv]; rfl, HF.out⟩
  · have hv : orI k (cmpI o o') = k := by unfold orI; rw [if_neg hk]
    have hb : (k != 0) = true := by rw [bne_iff_ne]; exact hk
    go_wp2_with (fail)
    go_ret
    exact ⟨by rw [hv]; rfl, HF.out⟩
set_option maxHeartbeats 1600000 in
theorem cloneV_any (w : World) (ad : Addr) (n c : Nat) (xs : List Value) (hr : Rd w 6 (some ad) n xs) (hn : n ≤ 1000000) (h1 : ∀ v ∈ xs, v.oneCell' = true) :
    Calls Try.prog 44 #[.slice (some ad) n c] w fun e w' => ∃ A' c', e = .returned (.slice A' n c') ∧ w'.ownsRow w.heap.size 28 6 (.slice A' n c') n xs ∧ Chg [] w w' := by
  obtain ⟨i1, hi1, hy0, hy1, hy2⟩ := info_parts info_ver
  have HR := Lib.hid hr
  have he : ∀ w : World, (binOp .eql 22 (.slice (some ad) n c) (.slice none 0 0)).run Try.prog w = .ok (.bool false) w := fun _ => rfl
  clear hr
  go_enter Try.func44, Try.ntmps44
  go_wp2_with (at_builtin; refine wpList_append_rd _ rfl (.tmp 5) (.tmp 6) 22 (by rfl) w.heap.size 28 i1 _ 6 64 Try.underlying22 hi1 hy0 hy1 hy2 rfl (by omega) (.slice (some ⟨w.heap.size, 0, none⟩) 0 0) 0 [] (by rfl) (World.ownsRow_made w #[] 0 (Nat.le_refl _) (by simp [maxLen]) rfl) (some ad) n c xs (by rfl) (HR.out.alloc _) h1 (by unfold maxLen; omega) (by omega) (by simp) ?_; intro A2 c2 w2 hown2 hgr2 hb2; simp only [Nat.zero_add, List.nil_append] at hown2)
  go_ret
  exact ⟨A2, c2, rfl, hown2, ((Chg.refl [] _).alloc _).grown hgr2 (fun k hk => .inr (by simp [Value.ownBlock] at hk; omega))⟩
end Go.Proofs.Ytmliclfepnebfaa
