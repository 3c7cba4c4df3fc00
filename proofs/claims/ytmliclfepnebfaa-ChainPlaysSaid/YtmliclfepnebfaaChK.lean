
/-
  chain: bytes.Clone; own (the code's, the reference's); Order; slices.Clone; slices.BinarySearchFunc.
-/
import Derived.Test.YtmliclfepnebfaaChJ
namespace Go.Proofs.Ytmliclfepnebfaa
open Go.RowKit
set_option linter.unusedVariables false
set_option linter.unusedSimpArgs false

def ClonePost (w : World) (L : List UInt8) (e : Ending) (w' : World) : Prop := ∃ A c, e = .returned (.slice A L.length c) ∧ w'.ownsRow w.heap.size 5 1 (.slice A L.length c) L.length (cB L) ∧ Chg [] w w'
set_option maxHeartbeats 3200000 in
theorem cloneC_any (w : World) (A : Option Addr) (n c : Nat) (L : List UInt8) (hn : L.length = n) (hr : Rd w 1 A L.length (cB L)) (hl : L.length ≤ 1099511627776) (hnil : A = none → c = 0) :
    Calls Try.prog 50 #[.slice A n c] w (ClonePost w L) := by
  subst hn
  obtain ⟨i0, hi, hz0, hz1, hz2⟩ := info_parts info_u8c
  cases A with
  | none =>
    have hL : L = [] := by
      cases L with
      | nil => rfl
      | cons a l => obtain ⟨ad, h, _⟩ := hr.at_ (by simp); cases h
    subst hL
    obtain rfl := hnil rfl
    have he : ∀ w : World, (binOp .eql 26 (.slice none 0 0) (.slice none 0 0)).run Try.prog w = .ok (.bool true) w := fun _ => rfl
    go_enter Try.func50, Try.ntmps50
    go_wp2_with (fail)
    go_ret
    exact ⟨none, 0, rfl, own_none _ _ _ _, Chg.refl _ _⟩
  | some ad =>
    have HR := Lib.hid hr
    clear hr hnil
    have he : ∀ w : World, (binOp .eql 26 (.slice (some ad) L.length c) (.slice none 0 0)).run Try.prog w = .ok (.bool false) w := fun _ => rfl
    go_enter Try.func50, Try.ntmps50
    go_wp2_with (at_builtin; refine wpList_append_rd _ rfl (.tmp 5) (.tmp 6) 26 (by rfl) w.heap.size 5 i0 _ 1 1 Try.underlying26 hi hz0 hz1 hz2 rfl (by omega) (.slice (some ⟨w.heap.size, 0, none⟩) 0 0) 0 [] (by rfl) (World.ownsRow_made w #[] 0 (Nat.le_refl _) (by simp [maxLen]) rfl) (some ad) L.length c (cB L) (by rfl) (HR.out.alloc _) (cB_one _) (by unfold maxLen; omega) (by omega) (by simp) ?_; intro A2 c2 w2 hown2 hgr2 hb2; simp only [Nat.zero_add, List.nil_append] at hown2)
    go_ret
    exact ⟨A2, c2, rfl, hown2, ((Chg.refl [] _).alloc _).grown hgr2 (fun k hk => .inr (by simp [Value.ownBlock] at hk; omega))⟩


theorem ver_size : (Try.prog.info? 28).map (·.size) = some 6 := by kernel_rfl
theorem ret_ver1 {fn : Func} {p : Tmp} {tmps : Array Value} {w : World} {g : Nat} {T : TypeId} {cs : Array Value} {Post : Ending → World → Prop} (hs : cs.size = 6) (h : fn.results = #[.cell p 28])
    (hp : tmps.getD p undef = .pointer (some ⟨g, 0, none⟩)) (hg : At w g T cs) (hpost : Post (.returned (.agg cs)) w) :
    bodyPost Try.prog fn Post Exit.ret ⟨tmps, []⟩ w := by
  refine bodyPost_ret (v := .agg cs) ?_ rfl hpost
  have hp' : tmps[p]?.getD undef = .pointer (some ⟨g, 0, none⟩) := by simpa using hp
  simp [results, h, hp', asAddr, run_loadVar_row w g T 28 _ (0, 0) _ hg Try.underlying28 rfl (ver_size.trans (by rw [hs]))]
theorem ret_ver2 {fn : Func} {p q : Tmp} {tmps : Array Value} {w : World} {g : Nat} {T : TypeId} {cs : Array Value} {v : Value} {Post : Ending → World → Prop} (hs : cs.size = 6) (h : fn.results = #[.cell p 28, .tmp q])
    (hp : tmps.getD p undef = .pointer (some ⟨g, 0, none⟩)) (hq : tmps.getD q undef = v) (hg : At w g T cs) (hpost : Post (.returned (.tuple #[.agg cs, v])) w) :
    bodyPost Try.prog fn Post Exit.ret ⟨tmps, []⟩ w := by
  refine bodyPost_ret (v := .tuple #[.agg cs, v]) ?_ rfl hpost
  have hp' : tmps[p]?.getD undef = .pointer (some ⟨g, 0, none⟩) := by simpa using hp
  have hq' : tmps[q]?.getD undef = v := by simpa using hq
  simp [results, h, hp', hq', asAddr, run_loadVar_row w g T 28 _ (0, 0) _ hg Try.underlying28 rfl (ver_size.trans (by rw [hs]))]
set_option maxRecDepth 100000 in
set_option maxHeartbeats 3200000 in
theorem ownC_any (w : World) (m c o : Int) (A : Option Addr) (p : Nat) (g : Bool) (t : Int) (d : List UInt8) (hr : Rd w 1 A d.length (cB d)) (hdl : d.length ≤ 1099511627776) (hnil : A = none → p = 0) :
    Calls Try.prog 36 #[.agg #[.int .i64 m, .int .i64 c, .int .i64 o, .slice A d.length p, .bool g, .int .i64 t]] w fun e w' => ∃ A5 c5, e = .returned (.agg #[.int .i64 m, .int .i64 c, .int .i64 o, .slice A5 d.length c5, .bool g, .int .i64 t]) ∧ w'.ownsRow w.heap.size 5 1 (.slice A5 d.length c5) d.length (cB d) ∧ Chg [] w w' := by
  have q0 := ((Chg.refl [] w).alloc (.cells #[.int .i64 m, .int .i64 c, .int .i64 o, .slice A d.length p, .bool g, .int .i64 t] 28)).alloc (.cells #[.int .i64 0, .int .i64 0, .int .i64 0, .slice none 0 0, .bool false, .int .i64 0] 28)
  have z0 := (At.new w 28 #[.int .i64 m, .int .i64 c, .int .i64 o, .slice A d.length p, .bool g, .int .i64 t]).al (.cells #[.int .i64 0, .int .i64 0, .int .i64 0, .slice none 0 0, .bool false, .int .i64 0] 28)
  have z1 := At.newG (w.alloc (.cells #[.int .i64 m, .int .i64 c, .int .i64 o, .slice A d.length p, .bool g, .int .i64 t] 28)) 28 #[.int .i64 0, .int .i64 0, .int .i64 0, .slice none 0 0, .bool false, .int .i64 0] (g := w.heap.size + 1) (by simp)
  have HCL := Lib.hid (cloneC_any ((w.alloc (.cells #[.int .i64 m, .int .i64 c, .int .i64 o, .slice A d.length p, .bool g, .int .i64 t] 28)).alloc (.cells #[.int .i64 0, .int .i64 0, .int .i64 0, .slice none 0 0, .bool false, .int .i64 0] 28)) A d.length p d rfl (hr.keep0 q0) hdl hnil)
  have x3 := z0.cell 3
  simp only [List.getElem?_toArray, List.getElem?_cons_zero, List.getElem?_cons_succ] at x3
  have HZ0 := Lib.hid z0
  have HZ1 := Lib.hid z1
  have HQ := Lib.hid q0
  clear z0 z1 q0 hr hnil
  go_enter Try.func36, Try.ntmps36
  go_wp2_with (fail)
  generalize (w.alloc (.cells #[.int .i64 m, .int .i64 c, .int .i64 o, .slice A d.length p, .bool g, .int .i64 t] 28)).alloc (.cells #[.int .i64 0, .int .i64 0, .int .i64 0, .slice none 0 0, .bool false, .int .i64 0] 28) = wz at *
  generalize hg0 : w.heap.size = g0 at *
  refine HCL.out.mono ?_
  rintro e w5 ⟨A5, c5, rfl, hown5, hc5⟩
  have b5 := HZ0.out.keep hc5 (by simp)
  have r5 := HZ1.out.keep hc5 (by simp)
  have y3 := b5.cell 3
  have f3 := b5.free 3
  simp only [List.getElem?_toArray, List.getElem?_cons_zero, List.getElem?_cons_succ] at y3
  have b6 : At (w5.setCell ⟨g0, 3, none⟩ (.slice A5 d.length c5)) g0 28 #[.int .i64 m, .int .i64 c, .int .i64 o, .slice A5 d.length c5, .bool g, .int .i64 t] := by
    have h := b5.set_ 3 (.slice A5 d.length c5)
    simpa using h
  have q6 : Chg [g0] w5 (w5.setCell ⟨g0, 3, none⟩ (.slice A5 d.length c5)) := (Chg.refl _ _).setCell (.inl (by simp)) _
  have r6 := r5.keep q6 (by simp)
  have hzs := HZ0.out.lt
  have hz1 := HZ1.out.lt
  have HO6 : Hid ((w5.setCell ⟨g0, 3, none⟩ (.slice A5 d.length c5)).ownsRow g0 5 1 (.slice A5 d.length c5) d.length (cB d)) := own_up (own_keep hown5 q6 (fun j hj hm => by have := (hown5.lt j hj).1; simp at hm; omega)) (by omega)
  have HA5 : Hid (∀ j, (Value.slice A5 d.length c5).ownBlock = some j → g0 + 1 < j) := fun j hj => by have := (hown5.lt j hj).1; omega
  have HC6 : Hid (Chg [] w (w5.setCell ⟨g0, 3, none⟩ (.slice A5 d.length c5))) := (HQ.out.trans hc5 (by simp)).trans q6 (by simp; omega)
  have HB6 := Lib.hid b6
  have HR6 := Lib.hid r6
  have k0 := b6.cell 0
  have k1 := b6.cell 1
  have k2 := b6.cell 2
  have k3 := b6.cell 3
  have k4 := b6.cell 4
  have k5 := b6.cell 5
  have u0 := r6.cell 0
  have u1 := r6.cell 1
  have u2 := r6.cell 2
  have u3 := r6.cell 3
  have u4 := r6.cell 4
  have u5 := r6.cell 5
  have fu0 := r6.free 0
  have fu1 := r6.free 1
  have fu2 := r6.free 2
  have fu3 := r6.free 3
  have fu4 := r6.free 4
  have fu5 := r6.free 5
  simp only [List.getElem?_toArray, List.getElem?_cons_zero, List.getElem?_cons_succ] at k0 k1 k2 k3 k4 k5 u0 u1 u2 u3 u4 u5
  obtain ⟨w6, HW6⟩ : ∃ w6, Hid (w5.setCell ⟨g0, 3, none⟩ (.slice A5 d.length c5) = w6) := ⟨_, rfl⟩
  rw [HW6.out] at HO6 HC6 HB6 HR6 k0 k1 k2 k3 k4 k5 u0 u1 u2 u3 u4 u5 fu0 fu1 fu2 fu3 fu4 fu5
  clear b5 r5 b6 q6 r6 hown5 hc5 HZ0 HZ1 x3
  go_upto_region 2 with (fail)
  rw [HW6.out]
  clear HW6 y3 f3
  go_wp2_with (fail)
  refine ret_ver1 (g := g0 + 1) (T := 28) (cs := #[.int .i64 m, .int .i64 c, .int .i64 o, .slice A5 d.length c5, .bool g, .int .i64 t]) rfl Try.results36 rfl ?_ ?_
  · have h := (((((HR6.out.set_ 0 (.int .i64 m)).set_ 1 (.int .i64 c)).set_ 2 (.int .i64 o)).set_ 3 (.slice A5 d.length c5)).set_ 4 (.bool g)).set_ 5 (.int .i64 t)
    simpa using h
  · have q9 : Chg [g0 + 1] w6 ((((((w6.setCell ⟨g0 + 1, 0, none⟩ (.int .i64 m)).setCell ⟨g0 + 1, 1, none⟩ (.int .i64 c)).setCell ⟨g0 + 1, 2, none⟩ (.int .i64 o)).setCell ⟨g0 + 1, 3, none⟩ (.slice A5 d.length c5)).setCell ⟨g0 + 1, 4, none⟩ (.bool g)).setCell ⟨g0 + 1, 5, none⟩ (.int .i64 t)) := ((((((Chg.refl _ _).setCell (.inl (by simp)) _).setCell (.inl (by simp)) _).setCell (.inl (by simp)) _).setCell (.inl (by simp)) _).setCell (.inl (by simp)) _).setCell (.inl (by simp)) _
    exact ⟨A5, c5, rfl, by rw [hg0]; exact own_keep HO6.out q9 (fun j hj hm => by have := HA5.out j hj; simp at hm; omega), HC6.out.trans q9 (by simp; omega)⟩
end Go.Proofs.Ytmliclfepnebfaa
