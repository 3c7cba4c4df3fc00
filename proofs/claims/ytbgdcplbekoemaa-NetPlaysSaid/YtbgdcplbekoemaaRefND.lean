
/-
  net: the reference: Late among all things, Twice, Send.
-/
import Derived.Test.YtbgdcplbekoemaaRefNC
namespace Go.Proofs.Ytbgdcplbekoemaa
open Go.RowKit
set_option linter.unusedVariables false
set_option linter.unusedSimpArgs false
attribute [local go_sem ↓] run_min2 run_max2
section
variable {w0 w w' : World} {gx : Nat} {A : Option Addr} {c : Nat} {ms : List UdV} {l : List MV} {rs : List Res}
theorem All.pushed (H : All w0 w (rRef gx A c ms :: rs)) {A' : Option Addr} {c' : Nat} {X : UdV} (h : RefH w0 w' gx A' c' (ms ++ [X])) (hc : Chg (gx :: blk A) w w') (hA : ∀ j ∈ blk A', j ∈ blk A ∨ w.heap.size ≤ j) (hX : ∀ j ∈ blk X.A, w.heap.size ≤ j) : RefA w0 w' gx (ms.map UdV.val ++ [X.val]) rs := by
  refine ⟨A', c', ms ++ [X], by simp, RefH.head H (hc.mono (fun j hj => .inl ?_)) h (fun j hj => (hA j hj).imp (fun h => ?_) id) (fun j hj => ?_) ?_⟩
  · rcases List.mem_cons.1 hj with rfl | hj
    · exact List.mem_cons_self
    · exact List.mem_cons_of_mem _ (List.mem_append_left _ hj)
  · exact List.mem_cons_of_mem _ (List.mem_append_left _ h)
  · have hj2 : j ∈ Go.Proofs.Ytbgdcplbekoemaa.datF ms ∨ j ∈ blk X.A := by simpa [Go.Proofs.Ytbgdcplbekoemaa.datF] using hj
    exact hj2.imp (fun h => List.mem_cons_of_mem _ (List.mem_append_right _ h)) (hX j)
  · have e : Go.Proofs.Ytbgdcplbekoemaa.datF (ms ++ [X]) = Go.Proofs.Ytbgdcplbekoemaa.datF ms ++ blk X.A := by simp [Go.Proofs.Ytbgdcplbekoemaa.datF]
    rw [e]
    refine List.nodup_append.2 ⟨ref_datF H, blk_nodup _, fun a ha b hb hab => ?_⟩
    subst hab
    have h2 := (RefH.of_all H).lt a (List.mem_cons_of_mem _ (List.mem_append_right _ ha))
    have := hX a hb
    omega
theorem rlate_all (h : RefA w0 w gx l rs) (hl : l.length ≤ 1024) (p : Int) :
    Calls Try.prog 32 #[.pointer (some ⟨gx, 0, none⟩), .int .i64 p] w fun e w' => e = .returned (.bool (decide (0 < l.length))) ∧ RefA w0 w' gx (lateL l p) rs ∧ w.heap.size ≤ w'.heap.size := by
  by_cases hp : 0 < l.length
  · rw [decide_eq_true hp]
    obtain ⟨A, c, ms, rfl, H⟩ := h
    rw [List.length_map] at hl hp
    obtain ⟨mi, hmi⟩ : ∃ m, ms[pickN p ms.length]? = some m := ⟨_, List.getElem?_eq_getElem (pickN_lt hp)⟩
    have hR := RefH.of_all H
    refine (rlate_yes hR hl hp p _ rfl mi hmi).mono ?_
    rintro e w1 ⟨A1, c1, rfl, h1, hc, hA1⟩
    have hpm := datF_erase hmi
    have e1 : datF (ms.eraseIdx (pickN p ms.length) ++ [mi]) = datF (ms.eraseIdx (pickN p ms.length)) ++ blk mi.A := by simp [datF]
    refine ⟨rfl, ⟨A1, c1, ms.eraseIdx (pickN p ms.length) ++ [mi], ?_, RefH.head H (hc.mono (fun j hj => .inl (by simp at hj; subst hj; exact List.mem_cons_self))) h1 (fun j hj => .inr (hA1 j hj)) (fun j hj => .inl (List.mem_cons_of_mem _ (List.mem_append_right _ (hpm.mem_iff.2 (by rw [← e1]; exact hj))))) (by rw [e1]; exact hpm.nodup_iff.1 (ref_datF H))⟩, hc.size⟩
    unfold lateL
    rw [List.length_map, List.getElem?_map, hmi, List.map_append]
    congr 1
    rw [List.eraseIdx_eq_take_drop_succ, List.eraseIdx_eq_take_drop_succ, List.map_append, List.map_take, List.map_drop]
  · obtain rfl : l = [] := by cases l with
      | nil => rfl
      | cons a l => simp at hp
    have HT := Lib.hid (fun w h => rtakes_none (w0 := w0) (w := w) (gx := gx) (rs := rs) h p)
    have HH := Lib.hid h
    clear h hl hp
    go_enter Try.func32, Try.ntmps32
    go_wp2_with (fail)
    refine (HT.out _ HH.out).mono ?_
    rintro e w1 ⟨rfl, hc⟩
    go_wp2_with (fail)
    go_ret
    have hc2 : Chg [] w (w1.alloc (.cells #[.int .i64 0, .int .i64 0, .slice none 0 0, .bool false] 72)) := hc.alloc _
    exact ⟨rfl, HH.out.quiet hc2, hc2.size⟩
set_option maxRecDepth 100000 in
set_option maxHeartbeats 6400000 in
theorem rtwice_yes (h : RefH w0 w gx A c ms) (hl : ms.length < 1024) (hp : 0 < ms.length) (p : Int) (i : Nat) (hpi : pickN p ms.length = i) (mi : UdV) (hmi : ms[i]? = some mi) (hdl : mi.d.length ≤ 1099511627776) :
    Calls Try.prog 31 #[.pointer (some ⟨gx, 0, none⟩), .int .i64 p] w fun e w' => e = .returned (.bool true) ∧ ∃ A' c' A5 c5, RefH w0 w' gx A' c' (ms ++ [⟨mi.f, mi.t, mi.d, A5, c5, mi.sp⟩]) ∧ Chg (gx :: blk A) w w' ∧ (∀ j ∈ blk A', j ∈ blk A ∨ w.heap.size ≤ j) ∧ (∀ j ∈ blk A5, w.heap.size ≤ j) := by
  obtain ⟨i1, hi1, hy0, hy1, hy2⟩ := info_parts info_itm
  have hi : i < ms.length := by rw [← hpi]; exact pickN_lt hp
  have HR : Hid (Rd w 1 mi.A mi.d.length (cB mi.d)) := Rd.of_own (h.dat mi (List.mem_of_getElem? hmi))
  obtain ⟨q, hq, hmod⟩ := pick_mod p hp
  rw [hpi] at hmod
  obtain ⟨g, rfl, hg, hgx, r0, r1, r2, r3⟩ := h.pick2 hmi
  obtain ⟨mf, mt, md, mA, mc, msp⟩ := mi
  simp only at r0 r1 r2 r3 HR hdl ⊢
  have HH := Lib.hid h
  have c0 : w.cell? ⟨gx, 0, none⟩ = some (.slice (some ⟨g, 0, none⟩) ms.length c) := h.at_.cell 0
  have hb : ((ms.length : Int) == 0) = false := by rw [beq_eq_false_iff_ne]; omega
  have hb2 : ¬ (ms.length : Int) = 0 := by omega
  have hb3 : decide ((1024 : Int) ≤ (ms.length : Int)) = false := decide_eq_false (by omega)
  have hii : (i : Int) < (ms.length : Int) := by omega
  have hne : ¬ ms = [] := fun e => by rw [e] at hp; simp at hp
  have hmod2 : Int.tmod (q : Int) (ms.length : Int) = (i : Int) := by rw [← hmod]; rfl
  clear hmi h hi hpi
  go_enter Try.func31, Try.ntmps31
  go_upto_region 3 with (fail)
  clear c0
  refine wp_regionE 15 (fun w' => w'.cell? ⟨gx, 0, none⟩ = some (.slice (some ⟨g, 0, none⟩) ms.length c) ∧ w'.cell? ⟨g, i * 4, none⟩ = some (.int .i64 mf) ∧ w'.cell? ⟨g, i * 4 + 1, none⟩ = some (.int .i64 mt) ∧ w'.cell? ⟨g, i * 4 + 2, none⟩ = some (.slice mA md.length mc) ∧ w'.cell? ⟨g, i * 4 + 3, none⟩ = some (.bool msp)) (by kernel_rfl) ?_ (fun hHeld => ?_)
  · exact ⟨(HH.out.keep ((Chg.refl [] w).drew)).at_.cell 0, (((Chg.refl [] w).drew).cell (p := ⟨g, i * 4, none⟩) hg (by simp)).trans r0, (((Chg.refl [] w).drew).cell (p := ⟨g, i * 4 + 1, none⟩) hg (by simp)).trans r1, (((Chg.refl [] w).drew).cell (p := ⟨g, i * 4 + 2, none⟩) hg (by simp)).trans r2, (((Chg.refl [] w).drew).cell (p := ⟨g, i * 4 + 3, none⟩) hg (by simp)).trans r3⟩
  have HDR : Chg [] w w.drew := (Chg.refl [] w).drew
  have HD3 : Hid (RefH w0 w.drew gx (some ⟨g, 0, none⟩) c ms) := HH.out.keep HDR
  have HR3 : Hid (Rd w.drew 1 mA md.length (cB md)) := HR.out.keep0 HDR
  have HC3 := Lib.hid HDR
  have r0 := (HDR.cell (p := ⟨g, i * 4, none⟩) hg (by simp)).trans r0
  have r1 := (HDR.cell (p := ⟨g, i * 4 + 1, none⟩) hg (by simp)).trans r1
  have r2 := (HDR.cell (p := ⟨g, i * 4 + 2, none⟩) hg (by simp)).trans r2
  have r3 := (HDR.cell (p := ⟨g, i * 4 + 3, none⟩) hg (by simp)).trans r3
  have hg : g < w.drew.heap.size := hg
  clear HDR
  generalize w.drew = wd at *
  have KD : Hid (∀ w', Chg [] wd w' → w'.cell? ⟨gx, 0, none⟩ = some (.slice (some ⟨g, 0, none⟩) ms.length c) ∧ w'.cell? ⟨g, i * 4, none⟩ = some (.int .i64 mf) ∧ w'.cell? ⟨g, i * 4 + 1, none⟩ = some (.int .i64 mt) ∧ w'.cell? ⟨g, i * 4 + 2, none⟩ = some (.slice mA md.length mc) ∧ w'.cell? ⟨g, i * 4 + 3, none⟩ = some (.bool msp)) := fun w' hc => ⟨(HD3.out.keep hc).at_.cell 0, (hc.cell (p := ⟨g, i * 4, none⟩) hg (by simp)).trans r0, (hc.cell (p := ⟨g, i * 4 + 1, none⟩) hg (by simp)).trans r1, (hc.cell (p := ⟨g, i * 4 + 2, none⟩) hg (by simp)).trans r2, (hc.cell (p := ⟨g, i * 4 + 3, none⟩) hg (by simp)).trans r3⟩
  refine takeWE (i := 0) (d := (some 20)) (v := ?_) rfl rfl (by kernel_rfl) (by kernel_rfl) (by kernel_rfl) (by kernel_rfl) (by kernel_rfl) (fun _ _ _ h => h) (by rfl) ?_ (by assumption) ?_
  rotate_left
  · intro w' hSw; (try dsimp only at hSw); go_simp; try with_reducible rfl
  try simp only [Act.put, List.setIfInBounds_toArray, List.set_cons_zero, List.set_cons_succ]
  refine takeWE (i := 1) (d := (some 21)) (v := ?_) rfl rfl (by kernel_rfl) (by kernel_rfl) (by kernel_rfl) (by kernel_rfl) (by kernel_rfl) (fun _ _ _ h => h) (by rfl) ?_ (by assumption) ?_
  rotate_left
  · intro w' hSw; (try dsimp only at hSw); go_simp; try with_reducible rfl
  try simp only [Act.put, List.setIfInBounds_toArray, List.set_cons_zero, List.set_cons_succ]
  refine takeWE (i := 2) (d := (some 22)) (v := ?_) rfl rfl (by kernel_rfl) (by kernel_rfl) (by kernel_rfl) (by kernel_rfl) (by kernel_rfl) (fun _ _ _ h => h) (by rfl) ?_ (by assumption) ?_
  rotate_left
  · intro w' hSw; (try dsimp only at hSw); go_simp; try with_reducible rfl
  try simp only [Act.put, List.setIfInBounds_toArray, List.set_cons_zero, List.set_cons_succ]
  refine takeWE (i := 3) (d := (some 23)) (v := ?_) rfl rfl (by kernel_rfl) (by kernel_rfl) (by kernel_rfl) (by kernel_rfl) (by kernel_rfl) (fun _ _ _ h => h) (by rfl) ?_ (by assumption) ?_
  rotate_left
  · intro w' hSw; (try dsimp only at hSw); go_simp; try with_reducible rfl
  try simp only [Act.put, List.setIfInBounds_toArray, List.set_cons_zero, List.set_cons_succ]
  refine takeWE (i := 4) (d := (some 24)) (v := ?_) rfl rfl (by kernel_rfl) (by kernel_rfl) (by kernel_rfl) (by kernel_rfl) (by kernel_rfl) (fun _ _ _ h => h) (by rfl) ?_ (by assumption) ?_
  rotate_left
  · intro w' hSw; (try dsimp only at hSw); go_simp; try with_reducible rfl
  try simp only [Act.put, List.setIfInBounds_toArray, List.set_cons_zero, List.set_cons_succ]
  refine takeWE (i := 5) (d := (some 25)) (v := ?_) rfl rfl (by kernel_rfl) (by kernel_rfl) (by kernel_rfl) (by kernel_rfl) (by kernel_rfl) (fun _ _ _ h => h) (by rfl) ?_ (by assumption) ?_
  rotate_left
  · intro w' hSw; (try dsimp only at hSw); go_simp; try with_reducible rfl
  try simp only [Act.put, List.setIfInBounds_toArray, List.set_cons_zero, List.set_cons_succ]
  refine takeWE (i := 6) (d := (some 26)) (v := ?_) rfl rfl (by kernel_rfl) (by kernel_rfl) (by kernel_rfl) (by kernel_rfl) (by kernel_rfl) (fun _ _ _ h => h) (by rfl) ?_ (by assumption) ?_
  rotate_left
  · intro w' hSw; (try dsimp only at hSw); go_simp; try with_reducible rfl
  try simp only [Act.put, List.setIfInBounds_toArray, List.set_cons_zero, List.set_cons_succ]
  refine takeWE (i := 7) (d := (some 27)) (v := ?_) rfl rfl (by kernel_rfl) (by kernel_rfl) (by kernel_rfl) (by kernel_rfl) (by kernel_rfl) (fun _ _ _ h => h) (by rfl) ?_ (by assumption) ?_
  rotate_left
  · intro w' hSw; (try dsimp only at hSw); go_simp; try with_reducible rfl
  try simp only [Act.put, List.setIfInBounds_toArray, List.set_cons_zero, List.set_cons_succ]
  refine takeWE (i := 8) (d := (some 28)) (v := ?_) rfl rfl (by kernel_rfl) (by kernel_rfl) (by kernel_rfl) (by kernel_rfl) (by kernel_rfl) (fun _ _ _ h => h) (by rfl) ?_ (by assumption) ?_
  rotate_left
  · intro w' hSw; (try dsimp only at hSw); go_simp; try with_reducible rfl
  try simp only [Act.put, List.setIfInBounds_toArray, List.set_cons_zero, List.set_cons_succ]
  refine takeWE (i := 9) (d := (some 29)) (v := ?_) rfl rfl (by kernel_rfl) (by kernel_rfl) (by kernel_rfl) (by kernel_rfl) (by kernel_rfl) (fun _ _ _ h => h) (by rfl) ?_ (by assumption) ?_
  rotate_left
  · intro w' hSw; (try dsimp only at hSw); go_simp; try with_reducible rfl
  try simp only [Act.put, List.setIfInBounds_toArray, List.set_cons_zero, List.set_cons_succ]
  refine takeWE (i := 10) (d := (some 30)) (v := ?_) rfl rfl (by kernel_rfl) (by kernel_rfl) (by kernel_rfl) (by kernel_rfl) (by kernel_rfl) (fun _ _ _ h => h) (by rfl) ?_ (by assumption) ?_
  rotate_left
  · intro w' hSw; (try dsimp only at hSw); go_simp; try with_reducible rfl
  try simp only [Act.put, List.setIfInBounds_toArray, List.set_cons_zero, List.set_cons_succ]
  refine takeWE (i := 11) (d := (some 31)) (v := ?_) rfl rfl (by kernel_rfl) (by kernel_rfl) (by kernel_rfl) (by kernel_rfl) (by kernel_rfl) (fun _ _ _ h => h) (by rfl) ?_ (by assumption) ?_
  rotate_left
  · intro w' hSw; (try dsimp only at hSw); go_simp; try with_reducible rfl
  try simp only [Act.put, List.setIfInBounds_toArray, List.set_cons_zero, List.set_cons_succ]
  refine takeWE (i := 12) (d := (some 32)) (v := ?_) rfl rfl (by kernel_rfl) (by kernel_rfl) (by kernel_rfl) (by kernel_rfl) (by kernel_rfl) (fun _ _ _ h => h) (by rfl) ?_ (by assumption) ?_
  rotate_left
  · intro w' hSw; (try dsimp only at hSw); go_simp; try with_reducible rfl
  try simp only [Act.put, List.setIfInBounds_toArray, List.set_cons_zero, List.set_cons_succ]
  refine takeWE (i := 13) (d := (some 33)) (v := ?_) rfl rfl (by kernel_rfl) (by kernel_rfl) (by kernel_rfl) (by kernel_rfl) (by kernel_rfl) (fun _ _ _ h => h) (by rfl) ?_ (by assumption) ?_
  rotate_left
  · intro w' hSw; (try dsimp only at hSw); go_simp; try with_reducible rfl
  try simp only [Act.put, List.setIfInBounds_toArray, List.set_cons_zero, List.set_cons_succ]
  refine wpE_ready (rs := [14]) (by kernel_rfl) (by simp) ?_
  refine AllE.cons rfl (fun K hK => ?_) (AllE.nil)
  go_simp
  go_wp2_with (fail)
  have q4 : Chg [] wd (wd.alloc (.cells #[.int .i64 0, .int .i64 0, .slice none 0 0, .bool false] 72)) := (Chg.refl [] wd).alloc _
  have b4 := At.new wd 72 #[.int .i64 0, .int .i64 0, .slice none 0 0, .bool false]
  have y0 := b4.cell 0
  have y1 := b4.cell 1
  have y2 := b4.cell 2
  have y3 := b4.cell 3
  have f0 := b4.free 0
  have f1 := b4.free 1
  have f2 := b4.free 2
  have f3 := b4.free 3
  simp only [List.getElem?_toArray, List.getElem?_cons_zero, List.getElem?_cons_succ] at y0 y1 y2 y3
  have B4 := Lib.hid b4
  clear b4
  refine hK.out _ _ ?_ (fun hHeld => ?_)
  · exact KD.out _ q4
  clear hK K
  try simp only [Act.put, List.setIfInBounds_toArray, List.set_cons_zero, List.set_cons_succ]
  refine wpE_ready (rs := [15]) (by kernel_rfl) (by simp) ?_
  refine AllE.last rfl (by kernel_rfl) (fun K hK => ?_)
  go_simp
  go_wp2_with (fail)
  refine hK.out _ _ ?_
  clear hK K hHeld B4 q4 y0 y1 y2 y3 f0 f1 f2 f3
  go_upto_region 4 with (fail)
  have HBZ := Lib.hid (At.new wd 72 #[.int .i64 mf, .int .i64 mt, .slice mA md.length mc, .bool msp])
  have q9 : Chg [] wd (wd.alloc (.cells #[.int .i64 mf, .int .i64 mt, .slice mA md.length mc, .bool msp] 72)) := (Chg.refl [] wd).alloc _
  have HZ := Lib.hid (HD3.out.keep q9)
  have HRZ := Lib.hid (HR3.out.keep0 q9)
  have HCZ := Lib.hid (HC3.out.trans q9 (by simp))
  have HGB : Hid (∀ j, j ∈ blk (some ⟨g, 0, none⟩) → j < wd.heap.size) := fun j hj => (own_in HD3.out.row j hj).2
  clear q9 KD HD3 HR3 HC3 r0 r1 r2 r3 hg
  generalize wd.alloc (.cells #[.int .i64 mf, .int .i64 mt, .slice mA md.length mc, .bool msp] 72) = wz at *
  generalize wd.heap.size = gb at *
  generalize hAg : some (⟨g, 0, none⟩ : Addr) = A at *
  have HAg := Lib.hid hAg
  clear hAg
  have HGBA : Hid (∀ j, j ∈ blk A → j = gb → False) := fun j hj e => by have := HGB.out j hj; omega
  have KK : Hid (∀ w', Chg [] wz w' → w'.cell? ⟨gx, 0, none⟩ = some (.slice A ms.length c) ∧ w'.cell? ⟨gb, 0, none⟩ = some (.int .i64 mf) ∧ w'.cell? ⟨gb, 1, none⟩ = some (.int .i64 mt) ∧ w'.cell? ⟨gb, 2, none⟩ = some (.slice mA md.length mc) ∧ w'.cell? ⟨gb, 3, none⟩ = some (.bool msp)) := fun w' hc => ⟨(HZ.out.at_.keep hc (by simp)).cell 0, (HBZ.out.keep hc (by simp)).cell 0, (HBZ.out.keep hc (by simp)).cell 1, (HBZ.out.keep hc (by simp)).cell 2, (HBZ.out.keep hc (by simp)).cell 3⟩
  refine wp_regionE 15 (fun w' => w'.cell? ⟨gx, 0, none⟩ = some (.slice A ms.length c) ∧ w'.cell? ⟨gb, 0, none⟩ = some (.int .i64 mf) ∧ w'.cell? ⟨gb, 1, none⟩ = some (.int .i64 mt) ∧ w'.cell? ⟨gb, 2, none⟩ = some (.slice mA md.length mc) ∧ w'.cell? ⟨gb, 3, none⟩ = some (.bool msp)) (by kernel_rfl) ?_ (fun hHeld => ?_)
  · exact KK.out _ ((Chg.refl [] wz).drew)
  have HDR : Chg [] wz wz.drew := (Chg.refl [] wz).drew
  have HD0 : Hid (RefH w0 wz.drew gx A c ms) := HZ.out.keep HDR
  have HB0 : Hid (At wz.drew gb 72 #[.int .i64 mf, .int .i64 mt, .slice mA md.length mc, .bool msp]) := HBZ.out.keep HDR (by simp)
  have HR0 : Hid (Rd wz.drew 1 mA md.length (cB md)) := HRZ.out.keep0 HDR
  have HC0 := Lib.hid (HCZ.out.trans HDR (by simp))
  clear HDR HZ HBZ HCZ KK HRZ
  generalize wz.drew = wd at *
  have K0 : Hid (∀ w', Chg [] wd w' → w'.cell? ⟨gx, 0, none⟩ = some (.slice A ms.length c) ∧ w'.cell? ⟨gb, 0, none⟩ = some (.int .i64 mf) ∧ w'.cell? ⟨gb, 1, none⟩ = some (.int .i64 mt) ∧ w'.cell? ⟨gb, 2, none⟩ = some (.slice mA md.length mc) ∧ w'.cell? ⟨gb, 3, none⟩ = some (.bool msp)) := fun w' hc => ⟨(HD0.out.at_.keep hc (by simp)).cell 0, (HB0.out.keep hc (by simp)).cell 0, (HB0.out.keep hc (by simp)).cell 1, (HB0.out.keep hc (by simp)).cell 2, (HB0.out.keep hc (by simp)).cell 3⟩
  refine takeWE (i := 0) (d := (some 34)) (v := ?_) rfl rfl (by kernel_rfl) (by kernel_rfl) (by kernel_rfl) (by kernel_rfl) (by kernel_rfl) (fun _ _ _ h => h) (by rfl) ?_ (by assumption) ?_
  rotate_left
  · intro w' hSw; (try dsimp only at hSw); go_simp; try with_reducible rfl
  try simp only [Act.put, List.setIfInBounds_toArray, List.set_cons_zero, List.set_cons_succ]
  refine takeWE (i := 1) (d := (some 35)) (v := ?_) rfl rfl (by kernel_rfl) (by kernel_rfl) (by kernel_rfl) (by kernel_rfl) (by kernel_rfl) (fun _ _ _ h => h) (by rfl) ?_ (by assumption) ?_
  rotate_left
  · intro w' hSw; (try dsimp only at hSw); go_simp; try with_reducible rfl
  try simp only [Act.put, List.setIfInBounds_toArray, List.set_cons_zero, List.set_cons_succ]
  refine takeWE (i := 2) (d := (some 36)) (v := ?_) rfl rfl (by kernel_rfl) (by kernel_rfl) (by kernel_rfl) (by kernel_rfl) (by kernel_rfl) (fun _ _ _ h => h) (by rfl) ?_ (by assumption) ?_
  rotate_left
  · intro w' hSw; (try dsimp only at hSw); go_simp; try with_reducible rfl
  try simp only [Act.put, List.setIfInBounds_toArray, List.set_cons_zero, List.set_cons_succ]
  refine takeWE (i := 3) (d := (some 37)) (v := ?_) rfl rfl (by kernel_rfl) (by kernel_rfl) (by kernel_rfl) (by kernel_rfl) (by kernel_rfl) (fun _ _ _ h => h) (by rfl) ?_ (by assumption) ?_
  rotate_left
  · intro w' hSw; (try dsimp only at hSw); go_simp; try with_reducible rfl
  try simp only [Act.put, List.setIfInBounds_toArray, List.set_cons_zero, List.set_cons_succ]
  refine takeWE (i := 4) (d := (some 38)) (v := ?_) rfl rfl (by kernel_rfl) (by kernel_rfl) (by kernel_rfl) (by kernel_rfl) (by kernel_rfl) (fun _ _ _ h => h) (by rfl) ?_ (by assumption) ?_
  rotate_left
  · intro w' hSw; (try dsimp only at hSw); go_simp; try with_reducible rfl
  try simp only [Act.put, List.setIfInBounds_toArray, List.set_cons_zero, List.set_cons_succ]
  refine takeWE (i := 5) (d := (some 39)) (v := ?_) rfl rfl (by kernel_rfl) (by kernel_rfl) (by kernel_rfl) (by kernel_rfl) (by kernel_rfl) (fun _ _ _ h => h) (by rfl) ?_ (by assumption) ?_
  rotate_left
  · intro w' hSw; (try dsimp only at hSw); go_simp; try with_reducible rfl
  try simp only [Act.put, List.setIfInBounds_toArray, List.set_cons_zero, List.set_cons_succ]
  refine takeWE (i := 6) (d := (some 40)) (v := ?_) rfl rfl (by kernel_rfl) (by kernel_rfl) (by kernel_rfl) (by kernel_rfl) (by kernel_rfl) (fun _ _ _ h => h) (by rfl) ?_ (by assumption) ?_
  rotate_left
  · intro w' hSw; (try dsimp only at hSw); go_simp; try with_reducible rfl
  try simp only [Act.put, List.setIfInBounds_toArray, List.set_cons_zero, List.set_cons_succ]
  refine takeWE (i := 8) (d := (some 42)) (v := ?_) rfl rfl (by kernel_rfl) (by kernel_rfl) (by kernel_rfl) (by kernel_rfl) (by kernel_rfl) (fun _ _ _ h => h) (by rfl) ?_ (by assumption) ?_
  rotate_left
  · intro w' hSw; (try dsimp only at hSw); go_simp; try with_reducible rfl
  try simp only [Act.put, List.setIfInBounds_toArray, List.set_cons_zero, List.set_cons_succ]
  refine takeWE (i := 9) (d := (some 43)) (v := ?_) rfl rfl (by kernel_rfl) (by kernel_rfl) (by kernel_rfl) (by kernel_rfl) (by kernel_rfl) (fun _ _ _ h => h) (by rfl) ?_ (by assumption) ?_
  rotate_left
  · intro w' hSw; (try dsimp only at hSw); go_simp; try with_reducible rfl
  try simp only [Act.put, List.setIfInBounds_toArray, List.set_cons_zero, List.set_cons_succ]
  refine wpE_ready (rs := [7]) (by kernel_rfl) (by simp) ?_
  refine AllE.cons rfl (fun K hK => ?_) (AllE.nil)
  go_simp
  go_at_call 40
  (with_reducible refine (rown_any _ mf mt mA _ mc md rfl HR0.out hdl).mono ?_)
  rintro e w5 ⟨A5, c5, rfl, hown5, hc5⟩
  have HD := Lib.hid (HD0.out.keep hc5)
  have HB := Lib.hid (HB0.out.keep hc5 (by simp))
  have HO : Hid (w5.ownsRow w0.heap.size 5 1 (.slice A5 md.length c5) md.length (cB md)) := own_up hown5 HD0.out.chg.size
  have HO5 : Hid (∀ j ∈ blk A5, w.heap.size ≤ j) := fun j hj => Nat.le_trans HC0.out.size (own_in hown5 j hj).1
  have HCB := Lib.hid (HC0.out.trans hc5 (by simp))
  have KB : Hid (∀ w', Chg [] w5 w' → w'.cell? ⟨gx, 0, none⟩ = some (.slice A ms.length c) ∧ w'.cell? ⟨gb, 0, none⟩ = some (.int .i64 mf) ∧ w'.cell? ⟨gb, 1, none⟩ = some (.int .i64 mt) ∧ w'.cell? ⟨gb, 2, none⟩ = some (.slice mA md.length mc) ∧ w'.cell? ⟨gb, 3, none⟩ = some (.bool msp)) := fun w' hc => ⟨(HD.out.at_.keep hc (by simp)).cell 0, (HB.out.keep hc (by simp)).cell 0, (HB.out.keep hc (by simp)).cell 1, (HB.out.keep hc (by simp)).cell 2, (HB.out.keep hc (by simp)).cell 3⟩
  clear hown5 HD0 HB0 HR0 HC0
  go_wp2_with (fail)
  refine hK.out _ _ ?_ (fun hHeld => ?_)
  · exact K0.out _ hc5
  clear hK K
  try simp only [Act.put, List.setIfInBounds_toArray, List.set_cons_zero, List.set_cons_succ]
  refine takeWE (i := 10) (d := (some 44)) (v := ?_) rfl rfl (by kernel_rfl) (by kernel_rfl) (by kernel_rfl) (by kernel_rfl) (by kernel_rfl) (fun _ _ _ h => h) (by rfl) ?_ (by assumption) ?_
  rotate_left
  · intro w' hSw; (try dsimp only at hSw); go_simp; try with_reducible rfl
  try simp only [Act.put, List.setIfInBounds_toArray, List.set_cons_zero, List.set_cons_succ]
  refine wpE_ready (rs := [11]) (by kernel_rfl) (by simp) ?_
  refine AllE.cons rfl (fun K hK => ?_) (AllE.nil)
  go_simp
  go_wp2_with (fail)
  refine hK.out _ _ ?_ (fun hHeld => ?_)
  · exact KB.out _ ((Chg.refl [] w5).alloc _)
  clear hK K
  try simp only [Act.put, List.setIfInBounds_toArray, List.set_cons_zero, List.set_cons_succ]
  refine wpE_ready (rs := [12]) (by kernel_rfl) (by simp) ?_
  refine AllE.cons rfl (fun K hK => ?_) (AllE.nil)
  refine wp_append_rd _ (.tmp 38) (.tmp 45) 48 (by rfl) w0.heap.size 72 i1 _ 4 48 Try.underlying48 hi1 hy0 hy1 hy2 rfl (by omega) (.slice A ms.length c) ms.length (cUd ms) (by simp [Act.eval, Act.put]) (own_k0 HD.out.row ((Chg.refl [] w5).alloc _)) (some ⟨w5.heap.size, 0, none⟩) 1 1 (cUd [⟨mf, mt, md, A5, c5, msp⟩]) (by simp [Act.eval, Act.put]) (Rd.new' rfl rfl rfl) (cUd_one _) (by unfold maxLen; omega) (by omega) (by have := HD.out.chg.size; simp; omega) ?_
  intro A6 c6 w6 hown6 hg6 hb6
  have g6 : Chg (blk A) (w5.alloc (.cells #[.int .i64 mf, .int .i64 mt, .slice A5 md.length c5, .bool msp] 72)) w6 := (Chg.of_grown hg6).mono (by rw [own_blk]; exact fun _ h => .inl h)
  have qd : Chg [] w5 (w5.alloc (.cells #[.int .i64 mf, .int .i64 mt, .slice A5 md.length c5, .bool msp] 72)) := (Chg.refl [] w5).alloc _
  have hgA : gx ∉ blk A := fun hm => own_at_ne HD.out.row HD.out.at_ (by decide) gx (ob _ _ _ gx hm) rfl
  have HP := Lib.hid (HD.out.push (X := ⟨mf, mt, md, A5, c5, msp⟩) qd g6 hown6 HO.out)
  have HA6 : Hid (∀ j ∈ blk A6, j ∈ blk A ∨ w5.heap.size ≤ j) := fun j hj => by
    rcases hb6 with h | h
    · rw [h, own_blk] at hj; exact .inl hj
    · rw [h] at hj
      obtain rfl := List.mem_singleton.1 hj
      exact .inr (by simp)
  have x6 := Lib.hid ((HD.out.at_.keep qd (by simp)).keep g6 hgA)
  have fx0 := x6.out.free 0
  have cx0 := x6.out.cell 0
  have HB6 := Lib.hid ((HB.out.keep qd (by simp)).keep g6 (fun hm => HGBA.out gb hm rfl))
  refine hK.out _ _ ?_ (fun hHeld => ?_)
  · exact ⟨x6.out.cell 0, HB6.out.cell 0, HB6.out.cell 1, HB6.out.cell 2, HB6.out.cell 3⟩
  clear hK K
  try simp only [Act.put, List.setIfInBounds_toArray, List.set_cons_zero, List.set_cons_succ]
  refine takeWE (i := 13) (d := (some 47)) (v := ?_) rfl rfl (by kernel_rfl) (by kernel_rfl) (by kernel_rfl) (by kernel_rfl) (by kernel_rfl) (fun _ _ _ h => h) (by rfl) ?_ (by assumption) ?_
  rotate_left
  · intro w' hSw; (try dsimp only at hSw); go_simp; try with_reducible rfl
  try simp only [Act.put, List.setIfInBounds_toArray, List.set_cons_zero, List.set_cons_succ]
  refine takeWE (i := 14) (d := (some 48)) (v := ?_) rfl rfl (by kernel_rfl) (by kernel_rfl) (by kernel_rfl) (by kernel_rfl) (by kernel_rfl) (fun _ _ _ h => h) (by rfl) ?_ (by assumption) ?_
  rotate_left
  · intro w' hSw; (try dsimp only at hSw); go_simp; try with_reducible rfl
  try simp only [Act.put, List.setIfInBounds_toArray, List.set_cons_zero, List.set_cons_succ]
  refine wpE_ready (rs := [15]) (by kernel_rfl) (by simp) ?_
  refine AllE.last rfl (by kernel_rfl) (fun K hK => ?_)
  go_simp
  go_wp2_with (fail)
  refine hK.out _ _ ?_
  clear hK K hHeld fx0 cx0
  generalize w6.setCell ⟨gx, 0, none⟩ (.slice A6 (ms.length + 1) c6) = w7 at *
  go_wp2_with (fail)
  go_ret
  rw [HAg.out]
  have hc7 : Chg (gx :: blk A) w w7 := (HCB.out.mono (T := gx :: blk A) (by simp)).trans HP.out.2 (fun x hx => .inl hx)
  exact ⟨rfl, A6, c6, A5, c5, HP.out.1, hc7, (fun j hj => (HA6.out j hj).imp id (fun h => Nat.le_trans HCB.out.size h)), HO5.out⟩
theorem rtwice_all (h : RefA w0 w gx l rs) (hl : l.length ≤ 1024) (hd : ∀ m ∈ l, m.d.length ≤ 1099511627776) (p : Int) :
    Calls Try.prog 31 #[.pointer (some ⟨gx, 0, none⟩), .int .i64 p] w fun e w' => e = .returned (.bool (decide (0 < l.length ∧ l.length < 1024))) ∧ RefA w0 w' gx (twiceL l p) rs ∧ w.heap.size ≤ w'.heap.size := by
  by_cases hlt : l.length < 1024
  · by_cases hp : 0 < l.length
    · rw [decide_eq_true (p := 0 < l.length ∧ l.length < 1024) ⟨hp, hlt⟩]
      obtain ⟨A, c, ms, rfl, H⟩ := h
      rw [List.length_map] at hl hp hlt
      obtain ⟨mi, hmi⟩ : ∃ m, ms[pickN p ms.length]? = some m := ⟨_, List.getElem?_eq_getElem (pickN_lt hp)⟩
      refine (rtwice_yes (RefH.of_all H) hlt hp p _ rfl mi hmi (hd mi.val (List.mem_map_of_mem (List.mem_of_getElem? hmi)))).mono ?_
      rintro e w1 ⟨rfl, A1, c1, A5, c5, h1, hc, hA1, hA5⟩
      refine ⟨rfl, ?_, hc.size⟩
      have h2 := All.pushed H h1 hc hA1 hA5
      unfold twiceL
      rw [List.length_map, if_pos hlt, List.getElem?_map, hmi]
      exact h2
    · obtain rfl : l = [] := by cases l with
        | nil => rfl
        | cons a l => simp at hp
      obtain ⟨A, c, ms, hm, H⟩ := h
      obtain rfl : ms = [] := by simpa using hm
      have c0 : w.cell? ⟨gx, 0, none⟩ = some (.slice A 0 c) := (RefH.of_all H).at_.cell 0
      have HH := Lib.hid H
      clear H hd hm
      go_enter Try.func31, Try.ntmps31
      go_wp2_with (fail)
      go_ret
      exact ⟨rfl, ⟨A, c, [], rfl, HH.out⟩, Nat.le_refl _⟩
  · rw [decide_eq_false (p := 0 < l.length ∧ l.length < 1024) (fun h => hlt h.2)]
    obtain ⟨A, c, ms, rfl, H⟩ := h
    have HT : Hid (twiceL (ms.map UdV.val) p = ms.map UdV.val) := by unfold Hid twiceL; rw [if_neg hlt]
    rw [List.length_map] at hl hlt
    have c0 : w.cell? ⟨gx, 0, none⟩ = some (.slice A ms.length c) := (RefH.of_all H).at_.cell 0
    have hb : ((ms.length : Int) == 0) = false := by rw [beq_eq_false_iff_ne]; omega
    have hb2 : ¬ (ms.length : Int) = 0 := by omega
    have hb4 : ¬ ms.length = 0 := by omega
    have hb3 : decide ((1024 : Int) ≤ (ms.length : Int)) = true := decide_eq_true (by omega)
    have HH := Lib.hid H
    clear H hd
    go_enter Try.func31, Try.ntmps31
    go_wp2_with (fail)
    go_ret
    exact ⟨rfl, by rw [HT.out]; exact ⟨A, c, ms, rfl, HH.out⟩, Nat.le_refl _⟩
theorem sendL_full {l : List MV} {ms : List MsgV} {k : Nat} (hk : k ≤ ms.length) (h : k = ms.length ∨ l.length + k = 1024) (hk2 : k ≤ 1024 - l.length) : sendL l ms ms.length = sendL l ms k := by
  unfold sendL
  congr 1
  rcases h with rfl | h
  · rfl
  · congr 1; omega
set_option maxRecDepth 100000 in
set_option maxHeartbeats 6400000 in
theorem rsend_all (h : RefA w0 w gx l rs) (hl : l.length ≤ 1024) (B : Option Addr) (n cb : Nat) (ms : List MsgV) (hn : ms.length = n) (hlen : ms.length ≤ 140737488355328)
    (hM : ∀ w', w.heap.size ≤ w'.heap.size → (∃ l', RefA w0 w' gx l' rs) → MsIn w' B ms) :
    Calls Try.prog 28 #[.pointer (some ⟨gx, 0, none⟩), .slice B n cb] w fun e w' => e = .returned (.int .i64 (min ms.length (1024 - l.length) : Nat)) ∧ RefA w0 w' gx (sendL l ms ms.length) rs ∧ w.heap.size ≤ w'.heap.size := by
  subst hn
  obtain ⟨i1, hi1, hy0, hy1, hy2⟩ := info_parts info_itm
  have HH := Lib.hid h
  have HM := Lib.hid hM
  have Hl := Lib.hid hl
  clear h hM hl
  go_enter Try.func28, Try.ntmps28
  go_wp2_with (fail)
  go_loopw [5, 6] (fun m i wr => ∃ k : Nat, k ≤ ms.length ∧ k ≤ 1024 - l.length ∧ i = .int .i64 k ∧ m = .int .i64 k ∧ Hid (RefA w0 wr gx (sendL l ms k) rs) ∧ w.heap.size ≤ wr.heap.size) (fun _ i _ => ms.length - (intOf i).toNat)
  case atStart => exact ⟨0, Nat.zero_le _, Nat.zero_le _, rfl, rfl, by rw [sendL_zero]; exact HH, Nat.le_refl _⟩
  case round =>
    obtain ⟨k, hk, hk2, rfl, rfl, HN, hs⟩ := hrel
    have HLn : Hid ((sendL l ms k).length = l.length + k) := by unfold Hid; rw [sendL_len hk]; omega
    obtain ⟨A, c, us, hus, H⟩ := HN.out
    have HUL : Hid (us.length = l.length + k) := by have h := HLn.out; rw [← hus, List.length_map] at h; exact h
    have HH0 := Lib.hid (RefH.of_all H)
    have HAll := Lib.hid H
    have HUS := Lib.hid hus
    have c0 : wr.cell? ⟨gx, 0, none⟩ = some (.slice A us.length c) := HH0.out.at_.cell 0
    clear H hus
    by_cases hlt : k < ms.length
    · have hki : (k : Int) < (ms.length : Int) := by omega
      by_cases hc : l.length + k < 1024
      · have hMI := HM.out wr hs ⟨_, HN.out⟩
        obtain ⟨ad, rfl, had, g0, g1, g2⟩ := hMI.get3 hlt
        have hIn := hMI.each _ (List.getElem_mem hlt)
        have HL : Hid (sendL l ms (k + 1) = if k < 1024 - l.length then sendL l ms k ++ [ms[k].val] else sendL l ms k) := sendL_succ hlt
        have hci : (us.length : Int) < 1024 := by have := HUL.out; omega
        have hus6 : us.length ≤ 1024 := by have := HUL.out; omega
        clear hMI
        generalize ms[k] = x at *
        obtain ⟨xf, xt, xd, xA, xcp⟩ := x
        simp only at g0 g1 g2
        have HR := Lib.hid hIn.rd
        have HDL := Lib.hid hIn.dl
        simp only at HR HDL
        clear hIn HN
        go_upto_region 5 with (fail)
        clear c0
        refine wp_regionE 15 (fun w' => w'.cell? ⟨gx, 0, none⟩ = some (.slice A us.length c)) (by kernel_rfl) ?_ (fun hHeld => ?_)
        · exact (HH0.out.keep ((Chg.refl [] wr).drew)).at_.cell 0
        have HDR : Chg [] wr wr.drew := (Chg.refl [] wr).drew
        have HD0 : Hid (RefH w0 wr.drew gx A c us) := HH0.out.keep HDR
        have HR0 : Hid (Rd wr.drew 1 xA xd.length (cB xd)) := HR.out.keep0 HDR
        have HC0 := Lib.hid HDR
        have g0 := (HDR.cell (p := ad.add (k * 3)) (by rw [add_block]; exact had) (by simp)).trans g0
        have g1 := (HDR.cell (p := ⟨(ad.add (k * 3)).block, (ad.add (k * 3)).off + 1, none⟩) (by show (ad.add (k * 3)).block < _; rw [add_block]; exact had) (by simp)).trans g1
        have g2 := (HDR.cell (p := ⟨(ad.add (k * 3)).block, (ad.add (k * 3)).off + 2, none⟩) (by show (ad.add (k * 3)).block < _; rw [add_block]; exact had) (by simp)).trans g2
        clear HDR
        generalize wr.drew = wd at *
        have K0 : Hid (∀ w', Chg [] wd w' → w'.cell? ⟨gx, 0, none⟩ = some (.slice A us.length c)) := fun w' hc => (HD0.out.at_.keep hc (by simp)).cell 0
        refine takeWE (i := 0) (d := (some 21)) (v := ?_) rfl rfl (by kernel_rfl) (by kernel_rfl) (by kernel_rfl) (by kernel_rfl) (by kernel_rfl) (fun _ _ _ h => h) (by rfl) ?_ (by assumption) ?_
        rotate_left
        · intro w' hSw; (try dsimp only at hSw); go_simp; try with_reducible rfl
        try simp only [Act.put, List.setIfInBounds_toArray, List.set_cons_zero, List.set_cons_succ]
        refine takeWE (i := 1) (d := (some 22)) (v := ?_) rfl rfl (by kernel_rfl) (by kernel_rfl) (by kernel_rfl) (by kernel_rfl) (by kernel_rfl) (fun _ _ _ h => h) (by rfl) ?_ (by assumption) ?_
        rotate_left
        · intro w' hSw; (try dsimp only at hSw); go_simp; try with_reducible rfl
        try simp only [Act.put, List.setIfInBounds_toArray, List.set_cons_zero, List.set_cons_succ]
        refine takeWE (i := 2) (d := (some 23)) (v := ?_) rfl rfl (by kernel_rfl) (by kernel_rfl) (by kernel_rfl) (by kernel_rfl) (by kernel_rfl) (fun _ _ _ h => h) (by rfl) ?_ (by assumption) ?_
        rotate_left
        · intro w' hSw; (try dsimp only at hSw); go_simp; try with_reducible rfl
        try simp only [Act.put, List.setIfInBounds_toArray, List.set_cons_zero, List.set_cons_succ]
        refine takeWE (i := 3) (d := (some 24)) (v := ?_) rfl rfl (by kernel_rfl) (by kernel_rfl) (by kernel_rfl) (by kernel_rfl) (by kernel_rfl) (fun _ _ _ h => h) (by rfl) ?_ (by assumption) ?_
        rotate_left
        · intro w' hSw; (try dsimp only at hSw); go_simp; try with_reducible rfl
        try simp only [Act.put, List.setIfInBounds_toArray, List.set_cons_zero, List.set_cons_succ]
        refine takeWE (i := 4) (d := (some 25)) (v := ?_) rfl rfl (by kernel_rfl) (by kernel_rfl) (by kernel_rfl) (by kernel_rfl) (by kernel_rfl) (fun _ _ _ h => h) (by rfl) ?_ (by assumption) ?_
        rotate_left
        · intro w' hSw; (try dsimp only at hSw); go_simp; try with_reducible rfl
        try simp only [Act.put, List.setIfInBounds_toArray, List.set_cons_zero, List.set_cons_succ]
        refine takeWE (i := 5) (d := (some 26)) (v := ?_) rfl rfl (by kernel_rfl) (by kernel_rfl) (by kernel_rfl) (by kernel_rfl) (by kernel_rfl) (fun _ _ _ h => h) (by rfl) ?_ (by assumption) ?_
        rotate_left
        · intro w' hSw; (try dsimp only at hSw); go_simp; try with_reducible rfl
        try simp only [Act.put, List.setIfInBounds_toArray, List.set_cons_zero, List.set_cons_succ]
        refine takeWE (i := 6) (d := (some 27)) (v := ?_) rfl rfl (by kernel_rfl) (by kernel_rfl) (by kernel_rfl) (by kernel_rfl) (by kernel_rfl) (fun _ _ _ h => h) (by rfl) ?_ (by assumption) ?_
        rotate_left
        · intro w' hSw; (try dsimp only at hSw); go_simp; try with_reducible rfl
        try simp only [Act.put, List.setIfInBounds_toArray, List.set_cons_zero, List.set_cons_succ]
        refine takeWE (i := 7) (d := (some 28)) (v := ?_) rfl rfl (by kernel_rfl) (by kernel_rfl) (by kernel_rfl) (by kernel_rfl) (by kernel_rfl) (fun _ _ _ h => h) (by rfl) ?_ (by assumption) ?_
        rotate_left
        · intro w' hSw; (try dsimp only at hSw); go_simp; try with_reducible rfl
        try simp only [Act.put, List.setIfInBounds_toArray, List.set_cons_zero, List.set_cons_succ]
        refine wpE_ready (rs := [8]) (by kernel_rfl) (by simp) ?_
        refine AllE.cons rfl (fun K hK => ?_) (AllE.nil)
        go_simp
        go_wp2_with (fail)
        refine hK.out _ _ ?_ (fun hHeld => ?_)
        · assumption
        clear hK K
        try simp only [Act.put, List.setIfInBounds_toArray, List.set_cons_zero, List.set_cons_succ]
        refine wpE_ready (rs := [9]) (by kernel_rfl) (by simp) ?_
        refine AllE.cons rfl (fun K hK => ?_) (AllE.nil)
        go_simp
        go_at_call 40
        (with_reducible refine (rown_any _ xf xt xA _ xcp xd rfl HR0.out HDL.out).mono ?_)
        rintro e w5 ⟨A5, c5, rfl, hown5, hc5⟩
        have HD := Lib.hid (HD0.out.keep hc5)
        have HO : Hid (w5.ownsRow w0.heap.size 5 1 (.slice A5 xd.length c5) xd.length (cB xd)) := own_up hown5 HD0.out.chg.size
        have HO5 : Hid (∀ j ∈ blk A5, wr.heap.size ≤ j) := fun j hj => Nat.le_trans HC0.out.size (own_in hown5 j hj).1
        have HCB := Lib.hid (HC0.out.trans hc5 (by simp))
        have KB : Hid (∀ w', Chg [] w5 w' → w'.cell? ⟨gx, 0, none⟩ = some (.slice A us.length c)) := fun w' hc => (HD.out.at_.keep hc (by simp)).cell 0
        clear hown5 HD0 HR0 HC0 g0 g1 g2
        go_wp2_with (fail)
        refine hK.out _ _ ?_ (fun hHeld => ?_)
        · exact K0.out _ hc5
        clear hK K
        try simp only [Act.put, List.setIfInBounds_toArray, List.set_cons_zero, List.set_cons_succ]
        refine takeWE (i := 10) (d := (some 31)) (v := ?_) rfl rfl (by kernel_rfl) (by kernel_rfl) (by kernel_rfl) (by kernel_rfl) (by kernel_rfl) (fun _ _ _ h => h) (by rfl) ?_ (by assumption) ?_
        rotate_left
        · intro w' hSw; (try dsimp only at hSw); go_simp; try with_reducible rfl
        try simp only [Act.put, List.setIfInBounds_toArray, List.set_cons_zero, List.set_cons_succ]
        refine wpE_ready (rs := [11]) (by kernel_rfl) (by simp) ?_
        refine AllE.cons rfl (fun K hK => ?_) (AllE.nil)
        go_simp
        go_wp2_with (fail)
        refine hK.out _ _ ?_ (fun hHeld => ?_)
        · exact KB.out _ ((Chg.refl [] w5).alloc _)
        clear hK K
        try simp only [Act.put, List.setIfInBounds_toArray, List.set_cons_zero, List.set_cons_succ]
        refine wpE_ready (rs := [12]) (by kernel_rfl) (by simp) ?_
        refine AllE.cons rfl (fun K hK => ?_) (AllE.nil)
        refine wp_append_rd _ (.tmp 25) (.tmp 32) 48 (by rfl) w0.heap.size 72 i1 _ 4 48 Try.underlying48 hi1 hy0 hy1 hy2 rfl (by omega) (.slice A us.length c) us.length (cUd us) (by simp [Act.eval, Act.put]) (own_k0 HD.out.row ((Chg.refl [] w5).alloc _)) (some ⟨w5.heap.size, 0, none⟩) 1 1 (cUd [⟨xf, xt, xd, A5, c5, false⟩]) (by simp [Act.eval, Act.put]) (Rd.new' rfl rfl rfl) (cUd_one _) (by unfold maxLen; omega) (by omega) (by have := HD.out.chg.size; simp; omega) ?_
        intro A6 c6 w6 hown6 hg6 hb6
        have g6 : Chg (blk A) (w5.alloc (.cells #[.int .i64 xf, .int .i64 xt, .slice A5 xd.length c5, .bool false] 72)) w6 := (Chg.of_grown hg6).mono (by rw [own_blk]; exact fun _ h => .inl h)
        have qd : Chg [] w5 (w5.alloc (.cells #[.int .i64 xf, .int .i64 xt, .slice A5 xd.length c5, .bool false] 72)) := (Chg.refl [] w5).alloc _
        have hgA : gx ∉ blk A := fun hm => own_at_ne HD.out.row HD.out.at_ (by decide) gx (ob _ _ _ gx hm) rfl
        have HP := Lib.hid (HD.out.push (X := ⟨xf, xt, xd, A5, c5, false⟩) qd g6 hown6 HO.out)
        have HA6 : Hid (∀ j ∈ blk A6, j ∈ blk A ∨ w5.heap.size ≤ j) := fun j hj => by
          rcases hb6 with h | h
          · rw [h, own_blk] at hj; exact .inl hj
          · rw [h] at hj
            obtain rfl := List.mem_singleton.1 hj
            exact .inr (by simp)
        have x6 := Lib.hid ((HD.out.at_.keep qd (by simp)).keep g6 hgA)
        have fx0 := x6.out.free 0
        have cx0 := x6.out.cell 0
        refine hK.out _ _ ?_ (fun hHeld => ?_)
        · exact x6.out.cell 0
        clear hK K
        try simp only [Act.put, List.setIfInBounds_toArray, List.set_cons_zero, List.set_cons_succ]
        refine takeWE (i := 13) (d := (some 34)) (v := ?_) rfl rfl (by kernel_rfl) (by kernel_rfl) (by kernel_rfl) (by kernel_rfl) (by kernel_rfl) (fun _ _ _ h => h) (by rfl) ?_ (by assumption) ?_
        rotate_left
        · intro w' hSw; (try dsimp only at hSw); go_simp; try with_reducible rfl
        try simp only [Act.put, List.setIfInBounds_toArray, List.set_cons_zero, List.set_cons_succ]
        refine takeWE (i := 14) (d := (some 35)) (v := ?_) rfl rfl (by kernel_rfl) (by kernel_rfl) (by kernel_rfl) (by kernel_rfl) (by kernel_rfl) (fun _ _ _ h => h) (by rfl) ?_ (by assumption) ?_
        rotate_left
        · intro w' hSw; (try dsimp only at hSw); go_simp; try with_reducible rfl
        try simp only [Act.put, List.setIfInBounds_toArray, List.set_cons_zero, List.set_cons_succ]
        refine wpE_ready (rs := [15]) (by kernel_rfl) (by simp) ?_
        refine AllE.last rfl (by kernel_rfl) (fun K hK => ?_)
        go_simp
        go_wp2_with (fail)
        refine hK.out _ _ ?_
        clear hK K hHeld fx0 cx0
        generalize w6.setCell ⟨gx, 0, none⟩ (.slice A6 (us.length + 1) c6) = w7 at *
        have HN := Lib.hid (HAll.out.pushed HP.out.1 ((HCB.out.mono (T := gx :: blk A) (by simp)).trans HP.out.2 (fun x hx => .inl hx)) (fun j hj => (HA6.out j hj).imp id (fun h => Nat.le_trans HCB.out.size h)) HO5.out)
        have hsz7 := ((HCB.out.mono (T := gx :: blk A) (by simp)).trans HP.out.2 (fun x hx => .inl hx)).size
        rw [HUS.out] at HN
        have HLL : Hid (sendL l ms (k + 1) = sendL l ms k ++ [⟨xf, xt, xd, false⟩]) := by unfold Hid; rw [HL.out, if_pos (by omega)]; rfl
        clear HP HA6 HCB HO5 KB HO HD hown6 hg6 hb6 g6 qd hgA x6 HL
        go_wp2_with (fail)
        go_roundw
        case rel => exact ⟨k + 1, by omega, by omega, by go_num, by go_num, by rw [HLL.out]; exact HN.out, by omega⟩
        case measure => simp [intOf]; omega
      · have hci : ¬ (us.length : Int) < 1024 := by have := HUL.out; omega
        have HF := Lib.hid (sendL_full (l := l) (ms := ms) (k := k) hk (.inr (by have := Hl.out; omega)) hk2)
        have HMIN : Hid (min ms.length (1024 - l.length) = k) := by have := Hl.out; unfold Hid; omega
        go_wp2_with (fail)
        go_ret
        exact ⟨by first | (rw [HMIN.out]; rfl) | rfl, by rw [HF.out]; exact HN.out, hs⟩
    · obtain rfl : k = ms.length := by omega
      have hki : ¬ (ms.length : Int) < (ms.length : Int) := by omega
      have HMIN : Hid (min ms.length (1024 - l.length) = ms.length) := by unfold Hid; omega
      go_wp2_with (fail)
      go_ret
      exact ⟨by first | (rw [HMIN.out]; rfl) | rfl, HN.out, hs⟩
end
end Go.Proofs.Ytbgdcplbekoemaa
