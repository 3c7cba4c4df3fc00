
/-
  net: the reference: Len, takes.
-/
import Derived.Test.YtbgdcplbekoemaaRefNA
namespace Go.Proofs.Ytbgdcplbekoemaa
open Go.RowKit
set_option linter.unusedVariables false
set_option linter.unusedSimpArgs false
attribute [local go_sem ↓] run_min2 run_max2
section
variable {w0 w w' : World} {gx : Nat} {A : Option Addr} {c : Nat} {ms : List UdV}
theorem RefH.pick (h : RefH w0 w gx A c ms) {i : Nat} (hi : i < ms.length) : ∃ g, A = some ⟨g, 0, none⟩ ∧ g < w.heap.size ∧ g ≠ gx ∧ w.cell? ⟨g, i * 4, none⟩ = some (.int .i64 ms[i].f) ∧ w.cell? ⟨g, i * 4 + 1, none⟩ = some (.int .i64 ms[i].t) ∧ w.cell? ⟨g, i * 4 + 2, none⟩ = some (.slice ms[i].A ms[i].d.length ms[i].cp) ∧ w.cell? ⟨g, i * 4 + 3, none⟩ = some (.bool ms[i].sp) := by
  obtain ⟨g, rfl⟩ : ∃ g, A = some ⟨g, 0, none⟩ := by
    rcases h.row.2 with ⟨_, h4⟩ | ⟨g, cap, cur, h4, _⟩
    · omega
    · injection h4 with h4; exact ⟨g, h4⟩
  have hR : ∀ (j : Nat) (hj : j < 4) u, (ms[i].cells)[j]? = some u → w.cell? ⟨g, i * 4 + j, none⟩ = some u := fun j hj u hu => by
    obtain ⟨ad, ha, _, hc⟩ := (Rd.of_own h.row).at_ (by omega)
    obtain rfl : ad = ⟨g, 0, none⟩ := by injection ha with ha; exact ha.symm
    have := hc (i * 4 + j) u (by rw [cUd_get hi hj]; exact hu)
    have e : (⟨g, 0, none⟩ : Addr).add (i * 4 + j) = ⟨g, i * 4 + j, none⟩ := by unfold Addr.add; split <;> simp_all
    rwa [e] at this
  exact ⟨g, rfl, (own_in h.row g (by simp [blk])).2, fun e => own_at_ne h.row h.at_ (by decide) g rfl e, hR 0 (by omega) _ rfl, hR 1 (by omega) _ rfl, hR 2 (by omega) _ rfl, hR 3 (by omega) _ rfl⟩
theorem RefH.pick2 (h : RefH w0 w gx A c ms) {i : Nat} {m : UdV} (hm : ms[i]? = some m) : ∃ g, A = some ⟨g, 0, none⟩ ∧ g < w.heap.size ∧ g ≠ gx ∧ w.cell? ⟨g, i * 4, none⟩ = some (.int .i64 m.f) ∧ w.cell? ⟨g, i * 4 + 1, none⟩ = some (.int .i64 m.t) ∧ w.cell? ⟨g, i * 4 + 2, none⟩ = some (.slice m.A m.d.length m.cp) ∧ w.cell? ⟨g, i * 4 + 3, none⟩ = some (.bool m.sp) := by
  obtain ⟨hi, rfl⟩ := List.getElem?_eq_some_iff.1 hm
  exact h.pick hi
theorem rlen_net (h : RefH w0 w gx A c ms) : Calls Try.prog 22 #[.pointer (some ⟨gx, 0, none⟩)] w fun e w' => e = .returned (.int .i64 ms.length) ∧ w' = w := by
  have c0 : w.cell? ⟨gx, 0, none⟩ = some (.slice A ms.length c) := (h.at_.cell 0).trans rfl
  go_enter Try.func22, Try.ntmps22
  go_wp2_with (fail)
  go_ret
  exact ⟨rfl, rfl⟩
theorem pick_mod (p : Int) {n : Nat} (hp : 0 < n) : ∃ q : Nat, max 0 p = (q : Int) ∧ ((q : Int) % (n : Int)) = ((pickN p n : Nat) : Int) := by
  refine ⟨(max 0 p).toNat, by omega, ?_⟩
  unfold pickN
  simp
set_option maxHeartbeats 1600000 in
theorem rtakes_no (h : RefH w0 w gx A c []) (p : Int) :
    Calls Try.prog 41 #[.pointer (some ⟨gx, 0, none⟩), .int .i64 p] w fun e w' => e = .returned (.tuple #[.agg #[.int .i64 0, .int .i64 0, .slice none 0 0, .bool false], .bool false]) ∧ Chg [] w w' := by
  have q0 := (Chg.refl [] w).alloc (.cells #[.int .i64 0, .int .i64 0, .slice none 0 0, .bool false] 72)
  have z0 := At.new w 72 #[.int .i64 0, .int .i64 0, .slice none 0 0, .bool false]
  have c0 : (w.alloc (.cells #[.int .i64 0, .int .i64 0, .slice none 0 0, .bool false] 72)).cell? ⟨gx, 0, none⟩ = some (.slice A 0 c) := ((h.keep q0).at_.cell 0).trans rfl
  have u0 := z0.cell 0
  have u1 := z0.cell 1
  have u2 := z0.cell 2
  have u3 := z0.cell 3
  have fu0 := z0.free 0
  have fu1 := z0.free 1
  have fu2 := z0.free 2
  have fu3 := z0.free 3
  simp only [List.getElem?_toArray, List.getElem?_cons_zero, List.getElem?_cons_succ] at u0 u1 u2 u3
  have Z0 := Lib.hid z0
  clear z0 h
  go_enter Try.func41, Try.ntmps41
  go_wp2_with (fail)
  refine ret_itm2 (g := w.heap.size) (T := 72) (cs := #[.int .i64 0, .int .i64 0, .slice none 0 0, .bool false]) (v := .bool false) rfl Try.results41 rfl rfl ?_ ?_
  · exact At.new w 72 #[.int .i64 0, .int .i64 0, .slice none 0 0, .bool false]
  · exact ⟨rfl, q0⟩
set_option maxRecDepth 100000 in
set_option maxHeartbeats 6400000 in
theorem rtakes_yes (h : RefH w0 w gx A c ms) (hl : ms.length ≤ 1024) (hp : 0 < ms.length) (p : Int) (i : Nat) (hpi : pickN p ms.length = i) (mi : UdV) (hmi : ms[i]? = some mi) :
    Calls Try.prog 41 #[.pointer (some ⟨gx, 0, none⟩), .int .i64 p] w fun e w' => ∃ A' c', e = .returned (.tuple #[.agg mi.cells.toArray, .bool true]) ∧ RefH w0 w' gx A' c' (ms.eraseIdx i) ∧ Chg [gx] w w' ∧ (∀ j ∈ blk A', w.heap.size ≤ j) := by
  obtain ⟨i1, hi1, hy0, hy1, hy2⟩ := info_parts info_itm
  have hi : i < ms.length := by rw [← hpi]; exact pickN_lt hp
  have HIL := Lib.hid hi
  obtain ⟨mf, mt, md, mA, mc, msp⟩ := mi
  obtain ⟨q, hq, hmod⟩ := pick_mod p hp
  rw [hpi] at hmod
  have HH := Lib.hid h
  have hcap := own_cap h.row
  have q0 := (Chg.refl [] w).alloc (.cells #[.int .i64 0, .int .i64 0, .slice none 0 0, .bool false] 72)
  have H0 := Lib.hid (h.keep q0)
  obtain ⟨g, rfl, hg, hgx, r0, r1, r2, r3⟩ := H0.out.pick2 hmi
  simp only at r0 r1 r2 r3
  have c0 : (w.alloc (.cells #[.int .i64 0, .int .i64 0, .slice none 0 0, .bool false] 72)).cell? ⟨gx, 0, none⟩ = some (.slice (some ⟨g, 0, none⟩) ms.length c) := H0.out.at_.cell 0
  have hsH := fun w => run_slice_hi (P := Try.prog) w Try.underlying48 hi1 (some ⟨g, 0, none⟩) ms.length c (i : Int) i rfl (by omega)
  have hsL := fun w => run_slice_lo (P := Try.prog) w Try.underlying48 hi1 hy1 (some ⟨g, 0, none⟩) ms.length c ((i : Int) + 1) (i + 1) (by omega) (by omega)
  have hw1 : IntKind.i64.wrap ((i : Int) + 1) = (i : Int) + 1 := IntWalk.i64_in _ (by omega)
  have hb : ((ms.length : Int) == 0) = false := by rw [beq_eq_false_iff_ne]; omega
  have hb2 : ¬ (ms.length : Int) = 0 := by omega
  have hii : (i : Int) < (ms.length : Int) := by omega
  have Z0 := Lib.hid (At.new w 72 #[.int .i64 0, .int .i64 0, .slice none 0 0, .bool false])
  have HG0 : Hid (w.heap.size = w.heap.size) := rfl
  have HGX0 : Hid (gx < w.heap.size) := h.at_.lt
  clear hmi h hi
  go_enter Try.func41, Try.ntmps41
  go_upto_region 5 with (fail)
  have q1 := (Chg.refl [] (w.alloc (.cells #[.int .i64 0, .int .i64 0, .slice none 0 0, .bool false] 72))).alloc (.cells #[.int .i64 mf, .int .i64 mt, .slice mA md.length mc, .bool msp] 72)
  have HW := Lib.hid (H0.out.keep q1)
  have HZ0 := Lib.hid (Z0.out.keep q1 (by simp))
  have HZ1 := Lib.hid (At.newG (w.alloc (.cells #[.int .i64 0, .int .i64 0, .slice none 0 0, .bool false] 72)) 72 #[.int .i64 mf, .int .i64 mt, .slice mA md.length mc, .bool msp] (g := w.heap.size + 1) (by simp))
  have HCZ := Lib.hid (q0.trans q1 (by simp))
  clear r0 r1 r2 r3 c0 q1 q0 H0 Z0 HG0
  generalize ((w.alloc (.cells #[.int .i64 0, .int .i64 0, .slice none 0 0, .bool false] 72)).alloc (.cells #[.int .i64 mf, .int .i64 mt, .slice mA md.length mc, .bool msp] 72)) = wz at *
  obtain ⟨g0, HG0⟩ : ∃ g0, Hid (w.heap.size = g0) := ⟨_, rfl⟩
  rw [HG0.out] at HZ0 HZ1 ⊢
  have HGX : Hid (gx < g0) := by rw [← HG0.out]; exact HGX0.out
  refine wp_regionE 19 (fun w' => w'.cell? ⟨gx, 0, none⟩ = some (.slice (some ⟨g, 0, none⟩) ms.length c)) (by kernel_rfl) ?_ (fun hHeld => ?_)
  · exact (HW.out.keep ((Chg.refl [] wz).drew)).at_.cell 0
  have HDR : Chg [] wz wz.drew := (Chg.refl [] wz).drew
  have HD : Hid (RefH w0 wz.drew gx (some ⟨g, 0, none⟩) c ms) := HW.out.keep HDR
  have ZB : Hid (At wz.drew (g0 + 1) 72 #[.int .i64 mf, .int .i64 mt, .slice mA md.length mc, .bool msp]) := HZ1.out.keep HDR (by simp)
  have UB : Hid (At wz.drew g0 72 #[.int .i64 0, .int .i64 0, .slice none 0 0, .bool false]) := HZ0.out.keep HDR (by simp)
  have HCD : Hid (Chg [] w wz.drew) := HCZ.out.trans HDR (by simp)
  have HA6S : Hid (w.heap.size ≤ wz.drew.heap.size) := HCD.out.size
  clear HDR HZ0 HZ1 HCZ HW
  generalize wz.drew = wd at *
  have KD : Hid (∀ w', Chg [] wd w' → w'.cell? ⟨gx, 0, none⟩ = some (.slice (some ⟨g, 0, none⟩) ms.length c)) := fun w' hc => (HD.out.at_.keep hc (by simp)).cell 0
  have RR := Rd.of_own HD.out.row
  have RT : Hid (Rd wd 4 (some ⟨g, 0, none⟩) i (cUd (ms.take i))) := by
    have h := RR.take (k := i) (by have := HIL.out; omega)
    rwa [cUd_take] at h
  have RC : Hid (Rd wd 4 (cutA (some ⟨g, 0, none⟩) c (i + 1) 4) (ms.length - (i + 1)) (cUd (ms.drop (i + 1)))) := by
    have h := RR.cutR (k := i + 1) (cap := c) (by have := HIL.out; omega) (own_cap HD.out.row)
    rwa [cUd_drop] at h
  clear RR
  refine takeWE (i := 0) (d := (some 30)) (v := ?_) rfl rfl (by kernel_rfl) (by kernel_rfl) (by kernel_rfl) (by kernel_rfl) (by kernel_rfl) (fun _ _ _ h => h) (by rfl) ?_ (by assumption) ?_
  rotate_left
  · intro w' hSw; (try dsimp only at hSw); go_simp; try with_reducible rfl
  try simp only [Act.put, List.setIfInBounds_toArray, List.set_cons_zero, List.set_cons_succ]
  refine takeWE (i := 2) (d := (some 32)) (v := ?_) rfl rfl (by kernel_rfl) (by kernel_rfl) (by kernel_rfl) (by kernel_rfl) (by kernel_rfl) (fun _ _ _ h => h) (by rfl) ?_ (by assumption) ?_
  rotate_left
  · intro w' hSw; (try dsimp only at hSw); go_simp; try with_reducible rfl
  try simp only [Act.put, List.setIfInBounds_toArray, List.set_cons_zero, List.set_cons_succ]
  refine takeWE (i := 3) (d := (some 33)) (v := ?_) rfl rfl (by kernel_rfl) (by kernel_rfl) (by kernel_rfl) (by kernel_rfl) (by kernel_rfl) (fun _ _ _ h => h) (by rfl) ?_ (by assumption) ?_
  rotate_left
  · intro w' hSw; (try dsimp only at hSw); go_simp; try with_reducible rfl
  try simp only [Act.put, List.setIfInBounds_toArray, List.set_cons_zero, List.set_cons_succ]
  refine takeWE (i := 4) (d := (some 34)) (v := ?_) rfl rfl (by kernel_rfl) (by kernel_rfl) (by kernel_rfl) (by kernel_rfl) (by kernel_rfl) (fun _ _ _ h => h) (by rfl) ?_ (by assumption) ?_
  rotate_left
  · intro w' hSw; (try dsimp only at hSw); go_simp; try with_reducible rfl
  try simp only [Act.put, List.setIfInBounds_toArray, List.set_cons_zero, List.set_cons_succ]
  refine takeWE (i := 5) (d := (some 35)) (v := ?_) rfl rfl (by kernel_rfl) (by kernel_rfl) (by kernel_rfl) (by kernel_rfl) (by kernel_rfl) (fun _ _ _ h => h) (by rfl) ?_ (by assumption) ?_
  rotate_left
  · intro w' hSw; (try dsimp only at hSw); go_simp; try with_reducible rfl
  try simp only [Act.put, List.setIfInBounds_toArray, List.set_cons_zero, List.set_cons_succ]
  refine takeWE (i := 6) (d := (some 36)) (v := ?_) rfl rfl (by kernel_rfl) (by kernel_rfl) (by kernel_rfl) (by kernel_rfl) (by kernel_rfl) (fun _ _ _ h => h) (by rfl) ?_ (by assumption) ?_
  rotate_left
  · intro w' hSw; (try dsimp only at hSw); go_simp; try with_reducible rfl
  try simp only [Act.put, List.setIfInBounds_toArray, List.set_cons_zero, List.set_cons_succ]
  refine takeWE (i := 7) (d := (some 37)) (v := ?_) rfl rfl (by kernel_rfl) (by kernel_rfl) (by kernel_rfl) (by kernel_rfl) (by kernel_rfl) (fun _ _ _ h => h) (by rfl) ?_ (by assumption) ?_
  rotate_left
  · intro w' hSw; (try dsimp only at hSw); go_simp; try with_reducible rfl
  try simp only [Act.put, List.setIfInBounds_toArray, List.set_cons_zero, List.set_cons_succ]
  refine takeWE (i := 9) (d := (some 39)) (v := ?_) rfl rfl (by kernel_rfl) (by kernel_rfl) (by kernel_rfl) (by kernel_rfl) (by kernel_rfl) (fun _ _ _ h => h) (by rfl) ?_ (by assumption) ?_
  rotate_left
  · intro w' hSw; (try dsimp only at hSw); go_simp; try with_reducible rfl
  try simp only [Act.put, List.setIfInBounds_toArray, List.set_cons_zero, List.set_cons_succ]
  refine takeWE (i := 10) (d := (some 40)) (v := ?_) rfl rfl (by kernel_rfl) (by kernel_rfl) (by kernel_rfl) (by kernel_rfl) (by kernel_rfl) (fun _ _ _ h => h) (by rfl) ?_ (by assumption) ?_
  rotate_left
  · intro w' hSw; (try dsimp only at hSw); go_simp; try with_reducible rfl
  try simp only [Act.put, List.setIfInBounds_toArray, List.set_cons_zero, List.set_cons_succ]
  refine takeWE (i := 11) (d := (some 41)) (v := ?_) rfl rfl (by kernel_rfl) (by kernel_rfl) (by kernel_rfl) (by kernel_rfl) (by kernel_rfl) (fun _ _ _ h => h) (by rfl) ?_ (by assumption) ?_
  rotate_left
  · intro w' hSw; (try dsimp only at hSw); go_simp; try with_reducible rfl
  try simp only [Act.put, List.setIfInBounds_toArray, List.set_cons_zero, List.set_cons_succ]
  refine takeWE (i := 12) (d := (some 42)) (v := ?_) rfl rfl (by kernel_rfl) (by kernel_rfl) (by kernel_rfl) (by kernel_rfl) (by kernel_rfl) (fun _ _ _ h => h) (by rfl) ?_ (by assumption) ?_
  rotate_left
  · intro w' hSw; (try dsimp only at hSw); go_simp; try with_reducible rfl
  try simp only [Act.put, List.setIfInBounds_toArray, List.set_cons_zero, List.set_cons_succ]
  refine takeWE (i := 13) (d := (some 43)) (v := ?_) rfl rfl (by kernel_rfl) (by kernel_rfl) (by kernel_rfl) (by kernel_rfl) (by kernel_rfl) (fun _ _ _ h => h) (by rfl) ?_ (by assumption) ?_
  rotate_left
  · intro w' hSw; (try dsimp only at hSw); go_simp; try with_reducible rfl
  try simp only [Act.put, List.setIfInBounds_toArray, List.set_cons_zero, List.set_cons_succ]
  refine takeWE (i := 14) (d := (some 44)) (v := ?_) rfl rfl (by kernel_rfl) (by kernel_rfl) (by kernel_rfl) (by kernel_rfl) (by kernel_rfl) (fun _ _ _ h => h) (by rfl) ?_ (by assumption) ?_
  rotate_left
  · intro w' hSw; (try dsimp only at hSw); go_simp; try with_reducible rfl
  try simp only [Act.put, List.setIfInBounds_toArray, List.set_cons_zero, List.set_cons_succ]
  refine takeWE (i := 15) (d := (some 45)) (v := ?_) rfl rfl (by kernel_rfl) (by kernel_rfl) (by kernel_rfl) (by kernel_rfl) (by kernel_rfl) (fun _ _ _ h => h) (by rfl) ?_ (by assumption) ?_
  rotate_left
  · intro w' hSw; (try dsimp only at hSw); go_simp; try with_reducible rfl
  try simp only [Act.put, List.setIfInBounds_toArray, List.set_cons_zero, List.set_cons_succ]
  refine wpE_ready (rs := [1]) (by kernel_rfl) (by simp) ?_
  refine AllE.cons rfl (fun K hK => ?_) (AllE.nil)
  go_simp
  go_wp2_with (fail)
  refine hK.out _ _ ?_ (fun hHeld => ?_)
  · exact KD.out _ ((Chg.refl [] wd).alloc _)
  clear hK K
  try simp only [Act.put, List.setIfInBounds_toArray, List.set_cons_zero, List.set_cons_succ]
  refine wpE_ready (rs := [8]) (by kernel_rfl) (by simp) ?_
  refine AllE.cons rfl (fun K hK => ?_) (AllE.nil)
  refine wp_append_rd _ (.tmp 31) (.tmp 37) 48 (by rfl) wd.heap.size 72 i1 _ 4 48 Try.underlying48 hi1 hy0 hy1 hy2 rfl (by omega) (.slice (some ⟨wd.heap.size, 0, none⟩) 0 0) 0 [] (by simp [Act.eval, Act.put]) (World.ownsRow_made wd #[] 0 (Nat.le_refl _) (by simp [maxLen]) rfl) (some ⟨g, 0, none⟩) i c (cUd (ms.take i)) (by simp [Act.eval, Act.put]) (RT.out.alloc _) (cUd_one _) (by unfold maxLen; omega) (by omega) (by simp) ?_
  intro A4 c4 w4 hown4 hg4 hb4
  simp only [Nat.zero_add, List.nil_append] at hown4
  have hc4 : Chg [] wd w4 := ((Chg.refl [] wd).alloc _).grown hg4 (fun k hk => .inr (by simp [Value.ownBlock] at hk; omega))
  have OW4 := Lib.hid hown4
  clear hown4 hg4 hb4
  refine hK.out _ _ ?_ (fun hHeld => ?_)
  · exact KD.out _ hc4
  clear hK K
  try simp only [Act.put, List.setIfInBounds_toArray, List.set_cons_zero, List.set_cons_succ]
  refine wpE_ready (rs := [16]) (by kernel_rfl) (by simp) ?_
  refine AllE.cons rfl (fun K hK => ?_) (AllE.nil)
  refine wp_append_rd _ (.tmp 38) (.tmp 45) 48 (by rfl) wd.heap.size 72 i1 _ 4 48 Try.underlying48 hi1 hy0 hy1 hy2 rfl (by omega) (.slice A4 i c4) i (cUd (ms.take i)) (by simp [Act.eval, Act.put]) OW4.out (cutA (some ⟨g, 0, none⟩) c (i + 1) 4) (ms.length - (i + 1)) (c - (i + 1)) (cUd (ms.drop (i + 1))) (by simp [Act.eval, Act.put]) (RC.out.keep0 hc4) (cUd_one _) (by unfold maxLen; omega) (by omega) hc4.size ?_
  intro A6 c6 w6 hown6 hg6 hb6
  have hc6 : Chg [] wd w6 := hc4.grown hg6 (fun k hk => .inr (OW4.out.lt k hk).1)
  have x6 := Lib.hid (HD.out.at_.keep hc6 (by simp))
  have fx0 := x6.out.free 0
  refine hK.out _ _ ?_ (fun hHeld => ?_)
  · exact KD.out _ hc6
  clear hK K
  try simp only [Act.put, List.setIfInBounds_toArray, List.set_cons_zero, List.set_cons_succ]
  refine takeWE (i := 17) (d := (some 47)) (v := ?_) rfl rfl (by kernel_rfl) (by kernel_rfl) (by kernel_rfl) (by kernel_rfl) (by kernel_rfl) (fun _ _ _ h => h) (by rfl) ?_ (by assumption) ?_
  rotate_left
  · intro w' hSw; (try dsimp only at hSw); go_simp; try with_reducible rfl
  try simp only [Act.put, List.setIfInBounds_toArray, List.set_cons_zero, List.set_cons_succ]
  refine takeWE (i := 18) (d := (some 48)) (v := ?_) rfl rfl (by kernel_rfl) (by kernel_rfl) (by kernel_rfl) (by kernel_rfl) (by kernel_rfl) (fun _ _ _ h => h) (by rfl) ?_ (by assumption) ?_
  rotate_left
  · intro w' hSw; (try dsimp only at hSw); go_simp; try with_reducible rfl
  try simp only [Act.put, List.setIfInBounds_toArray, List.set_cons_zero, List.set_cons_succ]
  refine wpE_ready (rs := [19]) (by kernel_rfl) (by simp) ?_
  refine AllE.last rfl (by kernel_rfl) (fun K hK => ?_)
  go_simp
  go_wp2_with (fail)
  refine hK.out _ _ ?_
  clear hK K hHeld fx0
  have q7 : Chg [gx] w6 (w6.setCell ⟨gx, 0, none⟩ (.slice A6 (i + (ms.length - (i + 1))) c6)) := (Chg.refl _ _).setCell (.inl (by simp)) _
  have x7 : At (w6.setCell ⟨gx, 0, none⟩ (.slice A6 (i + (ms.length - (i + 1))) c6)) gx 50 #[.slice A6 (i + (ms.length - (i + 1))) c6] := by
    have h := x6.out.set_ 0 (.slice A6 (i + (ms.length - (i + 1))) c6)
    simpa using h
  have HLN : Hid ((ms.eraseIdx i).length = i + (ms.length - (i + 1))) := by unfold Hid; rw [List.length_eraseIdx, if_pos HIL.out]; omega
  have hown7 := own_keep hown6 q7 (fun j hj hm => own_at_ne hown6 x6.out (by decide) j hj (by simpa using hm))
  have hA6 : Hid (∀ j ∈ blk A6, wd.heap.size ≤ j) := fun j hj => by
    rcases hb6 with h | h
    · rw [h, own_blk] at hj
      exact (own_in OW4.out j hj).1
    · rw [h] at hj
      obtain rfl := List.mem_singleton.1 hj
      exact hc4.size
  have Z7 := Lib.hid ((ZB.out.keep hc6 (by simp)).keep q7 (by have := ZB.out.lt; have := HGX.out; simp; omega))
  have U7 := Lib.hid ((UB.out.keep hc6 (by simp)).keep q7 (by have := UB.out.lt; have := HGX.out; simp; omega))
  have HX7 := Lib.hid x7
  have HO7 := Lib.hid hown7
  have HC7 : Hid (Chg [gx] w (w6.setCell ⟨gx, 0, none⟩ (.slice A6 (i + (ms.length - (i + 1))) c6))) := ((HCD.out.trans hc6 (by simp)).mono (by simp)).trans q7 (by simp)
  have HQ : Hid (∀ m ∈ ms, (w6.setCell ⟨gx, 0, none⟩ (.slice A6 (i + (ms.length - (i + 1))) c6)).ownsRow w0.heap.size 5 1 (.slice m.A m.d.length m.cp) m.d.length (cB m.d)) := fun m hm => own_keep (HH.out.dat m hm) HC7.out (fun j hj hj2 => own_at_ne (HH.out.dat m hm) HH.out.at_ (by decide) j hj (by simpa using hj2))
  clear x6 hown6 hg6 hb6 hown7 x7 q7 hc6 hc4 OW4
  generalize w6.setCell ⟨gx, 0, none⟩ (.slice A6 (i + (ms.length - (i + 1))) c6) = w7 at *
  have x0 := Z7.out.cell 0
  have x1 := Z7.out.cell 1
  have x2 := Z7.out.cell 2
  have x3 := Z7.out.cell 3
  have u0 := U7.out.cell 0
  have u1 := U7.out.cell 1
  have u2 := U7.out.cell 2
  have u3 := U7.out.cell 3
  have fu0 := U7.out.free 0
  have fu1 := U7.out.free 1
  have fu2 := U7.out.free 2
  have fu3 := U7.out.free 3
  simp only [List.getElem?_toArray, List.getElem?_cons_zero, List.getElem?_cons_succ] at x0 x1 x2 x3 u0 u1 u2 u3
  go_wp2_with (fail)
  have z9 := (((U7.out.set_ 0 (.int .i64 mf)).set_ 1 (.int .i64 mt)).set_ 2 (.slice mA md.length mc)).set_ 3 (.bool msp)
  have q9 : Chg [g0] w7 ((((w7.setCell ⟨g0, 0, none⟩ (.int .i64 mf)).setCell ⟨g0, 1, none⟩ (.int .i64 mt)).setCell ⟨g0, 2, none⟩ (.slice mA md.length mc)).setCell ⟨g0, 3, none⟩ (.bool msp)) := ((((Chg.refl _ _).setCell (.inl (by simp)) _).setCell (.inl (by simp)) _).setCell (.inl (by simp)) _).setCell (.inl (by simp)) _
  refine ret_itm2 (g := g0) (T := 72) (cs := #[.int .i64 mf, .int .i64 mt, .slice mA md.length mc, .bool msp]) (v := .bool true) rfl Try.results41 rfl rfl ?_ ?_
  · simpa using z9
  · have hcw : Chg [gx] w ((((w7.setCell ⟨g0, 0, none⟩ (.int .i64 mf)).setCell ⟨g0, 1, none⟩ (.int .i64 mt)).setCell ⟨g0, 2, none⟩ (.slice mA md.length mc)).setCell ⟨g0, 3, none⟩ (.bool msp)) := HC7.out.trans q9 (by have := HG0.out; simp; omega)
    have hbw := HH.out.chg.size
    have hA7 : ∀ j ∈ blk A6, w.heap.size ≤ j := fun j hj => by have := HA6S.out; have := hA6.out j hj; omega
    refine ⟨A6, c6, by simp [UdV.cells], ⟨?_, ?_, fun m hm => ?_, HH.out.new, HH.out.chg.trans hcw (by have := HH.out.new; simp; omega)⟩, hcw, hA7⟩
    · rw [HLN.out]; exact HX7.out.keep q9 (by have := HGX.out; simp; omega)
    · rw [HLN.out, List.eraseIdx_eq_take_drop_succ, cUd_app]
      refine own_base (own_keep HO7.out q9 (fun j hj hm => by have h1 := hA6.out j (bo _ _ _ _ hj); have h2 := UB.out.lt; simp at hm; omega)) (fun k hk => Nat.le_trans hbw (hA7 k (bo A6 _ c6 k hk)))
    · refine own_keep (HQ.out m ((List.eraseIdx_sublist _ _).subset hm)) q9 (fun j hj hm2 => own_at_ne (HQ.out m ((List.eraseIdx_sublist _ _).subset hm)) U7.out (by decide) j hj (by simpa using hm2))
end
end Go.Proofs.Ytbgdcplbekoemaa
