
/-
  Several texts in one: RecF, RecF2, RecG.
-/
import Derived.Test.YtdfkednggjelcaaRecE
import Derived.Deep.RegionLaw
import Derived.Deep.RegionHeldLaw
import Derived.Deep.DeepCutAuto
import Derived.Deep.CutBlock
namespace Go.Proofs.Ytdfkednggjelcaa
open Go.RowKit
set_option linter.unusedVariables false

set_option maxRecDepth 100000 in
set_option maxHeartbeats 3200000 in
theorem refEncR_no (w : World) (o q : Int) (key : List UInt8) (m c vo : Int) (A : Option Addr) (val : List UInt8) (cp : Nat) (gone : Bool) (ttl : Int) (h : isR ⟨o, q, key, m, c, vo, val, gone, ttl⟩ = false) :
    Calls Try.prog 81 #[.agg #[.int .i64 o, .int .i64 q, .string ⟨key.toArray⟩, .int .i64 m, .int .i64 c, .int .i64 vo, .slice A val.length cp, .bool gone, .int .i64 ttl]] w fun e w' =>
      e = .returned (.tuple #[.slice none 0 0, .int .i64 1]) ∧ Chg [] w w' := by
  have H := Lib.hid h
  clear h
  go_enter Try.func81, Try.ntmps81
  go_wp2_with (fail)
  refine (refIsR_any _ o q key m c vo A val cp gone ttl).mono ?_
  rw [H.out]
  rintro e w1 ⟨rfl, hch1⟩
  go_wp2_with (fail)
  go_ret2
  exact ⟨rfl, ((Chg.refl _ _).alloc _).trans hch1 (by simp)⟩

set_option maxRecDepth 100000 in
set_option maxHeartbeats 6400000 in
theorem refEncR_yes0 (w : World) (o q : Int) (key : List UInt8) (m c vo : Int) (A : Option Addr) (val : List UInt8) (cp : Nat) (ttl : Int) (h : isR ⟨o, q, key, m, c, vo, val, false, ttl⟩ = true) (hr : Rd w 1 A val.length (cB val)) :
    Calls Try.prog 81 #[.agg #[.int .i64 o, .int .i64 q, .string ⟨key.toArray⟩, .int .i64 m, .int .i64 c, .int .i64 vo, .slice A val.length cp, .bool false, .int .i64 ttl]] w fun e w' =>
      ∃ A' c', e = .returned (.tuple #[.slice A' (encR ⟨o, q, key, m, c, vo, val, false, ttl⟩).length c', .int .i64 0]) ∧
        w'.ownsRow w.heap.size 5 1 (.slice A' (encR ⟨o, q, key, m, c, vo, val, false, ttl⟩).length c') (encR ⟨o, q, key, m, c, vo, val, false, ttl⟩).length (cB (encR ⟨o, q, key, m, c, vo, val, false, ttl⟩)) ∧ Chg [] w w' := by
  have hI := isR_iff.1 h
  obtain ⟨hst, b1, b2, b3, b4, hk1, hk, b5, hv, b6, b7, hgg⟩ := hI
  clear hgg
  obtain ⟨b8, b9, b10, b11⟩ := isS_iff.1 hst
  simp only at b1 b2 b3 b4 hk b5 hv b6 b7 b8 b9 b10 b11
  have H := Lib.hid h
  have HR := Lib.hid hr
  clear h hr hst hk1 b5
  obtain ⟨i0, hi, hz0, hz1, hz2⟩ := info_parts info8
  have h1 := At.new w 51 #[.int .i64 o, .int .i64 q, .string ⟨key.toArray⟩, .int .i64 m, .int .i64 c, .int .i64 vo, .slice A val.length cp, .bool false, .int .i64 ttl]
  have hz : w.heap.size < (w.alloc (.cells #[.int .i64 o, .int .i64 q, .string ⟨key.toArray⟩, .int .i64 m, .int .i64 c, .int .i64 vo, .slice A val.length cp, .bool false, .int .i64 ttl] 51)).heap.size := by simp
  have hch0 : Chg [] w (w.alloc (.cells #[.int .i64 o, .int .i64 q, .string ⟨key.toArray⟩, .int .i64 m, .int .i64 c, .int .i64 vo, .slice A val.length cp, .bool false, .int .i64 ttl] 51)) := (Chg.refl _ _).alloc _
  go_enter Try.func81, Try.ntmps81
  go_wp2_with (fail)
  refine (refIsR_any _ o q key m c vo A val cp false ttl).mono ?_
  rw [H.out]
  rintro e w1 ⟨rfl, hch1⟩
  have h2 := h1.keep hch1 (by simp)
  have hchw := Lib.hid (hch0.trans hch1 (by simp))
  have c0 := h2.cell 0
  have c1 := h2.cell 1
  have c2 := h2.cell 2
  have c7 := h2.cell 7
  have hlt := h2.lt
  clear h1 hz hch0 hch1
  have kstr := fun w => run_strW (P := Try.prog) 9 47 5 Try.underlying9 Try.underlying47 Try.underlying5 key w
  have ksz := fun w => strW_size 5 key w
  have kdr : ∀ w : World, w.drew.heap.size = w.heap.size := fun _ => rfl
  have kce := fun w => strW_cell 5 key w
  have HE : Hid (encR ⟨o, q, key, m, c, vo, val, false, ttl⟩ = (((([] ++ encs ([o, q].map clamp)) ++ encRows [key]) ++ encs ([m, c, goneN false, ttl].map clamp)) ++ encRows [val])) := rfl
  rw [show goneN false = 0 from rfl, List.nil_append] at HE
  have hE1 : (encs ([o, q].map clamp)).length ≤ 20 := by
    have h1 := enc_len9 (clamp_le o)
    have h2 := enc_len9 (clamp_le q)
    simp [encs]; omega
  have HK : Hid (encRows [key] = enc key.length ++ key) := by simp [encRows, Hid]
  have HV : Hid (encRows [val] = enc val.length ++ val) := by simp [encRows, Hid]
  have hE2 : (enc key.length ++ key).length ≤ 80 := by
    have h1 := enc_len9 (show key.length ≤ 4611686018427387904 by omega)
    simp; omega
  rw [HK.out, HV.out] at HE
  obtain ⟨N1, HN1⟩ : ∃ N1, Hid (encs ([o, q].map clamp) = N1) := ⟨_, rfl⟩
  obtain ⟨N2, HN2⟩ : ∃ N2, Hid (enc key.length ++ key = N2) := ⟨_, rfl⟩
  rw [HN1.out, HN2.out] at HE
  rw [HN1.out] at hE1
  rw [HN2.out] at hE2
  go_upto_region 6 with (fail)
  go_cut [5] (fun s5 wx => ∃ (A5 : Option Addr) (c5 : Nat), s5 = .slice A5 (N1 ++ N2).length c5 ∧ wx.ownsRow w1.heap.size 5 1 (.slice A5 (N1 ++ N2).length c5) (N1 ++ N2).length (cB (N1 ++ N2)) ∧ Chg [] w1 wx)
  case first =>
    go_region_held_law (fun w' => w'.cell? ⟨w.heap.size, 0, none⟩ = some (.int .i64 o) ∧ w'.cell? ⟨w.heap.size, 1, none⟩ = some (.int .i64 q) ∧ w'.cell? ⟨w.heap.size, 2, none⟩ = some (.string ⟨key.toArray⟩)) (first | exact ⟨(h2.keep (show Chg [] w1 _ from (by repeat' (first | (with_reducible assumption) | (with_reducible exact Chg.refl _ _) | (with_reducible refine Chg.alloc ?_ _) | (with_reducible refine Chg.drewN ?_ _) | (with_reducible refine Chg.drew ?_) | (with_reducible refine Chg.strW ?_ _ _) | (with_reducible refine Chg.t0 ?_ (by with_reducible assumption))))) (by simp)).cell 0, (h2.keep (show Chg [] w1 _ from (by repeat' (first | (with_reducible assumption) | (with_reducible exact Chg.refl _ _) | (with_reducible refine Chg.alloc ?_ _) | (with_reducible refine Chg.drewN ?_ _) | (with_reducible refine Chg.drew ?_) | (with_reducible refine Chg.strW ?_ _ _) | (with_reducible refine Chg.t0 ?_ (by with_reducible assumption))))) (by simp)).cell 1, (h2.keep (show Chg [] w1 _ from (by repeat' (first | (with_reducible assumption) | (with_reducible exact Chg.refl _ _) | (with_reducible refine Chg.alloc ?_ _) | (with_reducible refine Chg.drewN ?_ _) | (with_reducible refine Chg.drew ?_) | (with_reducible refine Chg.strW ?_ _ _) | (with_reducible refine Chg.t0 ?_ (by with_reducible assumption))))) (by simp)).cell 2⟩ | fail)
      (first
        | (go_simp; go_at_call 59; refine (refNums_any _ _ _ _ [o, q] rfl (by repeat' (first | (with_reducible refine Rd.drewN ?_ _) | (with_reducible refine Rd.drew ?_) | (refine Rd.new' ?_ rfl rfl; (first | rfl | (simp; done) | (simp [strW_size]; done))) | (with_reducible refine Rd.alloc ?_ _) | (with_reducible refine Rd.strW ?_ _ _))) (by simp) (by intro z hz; simp at hz; rcases hz with rfl | rfl <;> omega)).mono ?_; rintro e w3 ⟨A3, c3, rfl, hown3, hch3⟩; rw [HN1.out] at hown3; have hch13 : Hid (Chg [] w1 w3) := ((by repeat' (first | (with_reducible assumption) | (with_reducible exact Chg.refl _ _) | (with_reducible refine Chg.alloc ?_ _) | (with_reducible refine Chg.drewN ?_ _) | (with_reducible refine Chg.drew ?_) | (with_reducible refine Chg.strW ?_ _ _) | (with_reducible refine Chg.t0 ?_ (by with_reducible assumption)))) : Chg [] w1 w3); have hown3 := own_up (base' := w1.heap.size) hown3 (by first | (simp; done) | (simp [strW_size]; done) | (simp [strW_size]; omega)); have h23 := h2.keep hch13.out (by simp); have c0 := h23.cell 0; have c1 := h23.cell 1; have c2 := h23.cell 2; have hs3 := h23.lt; rw [HN1.out])
        | (go_simp; go_at_call 82; refine (refBytes_any _ _ _ _ key rfl (by repeat' (first | (with_reducible refine Rd.drewN ?_ _) | (with_reducible refine Rd.drew ?_) | (with_reducible refine Rd.alloc ?_ _) | (refine strW_rd' ?_; (first | rfl | (simp; done) | (simp [strW_size]; done))) | (with_reducible refine Rd.k0 ?_ (by with_reducible assumption)))) (by omega)).mono ?_; rintro e w5 ⟨A5, c5, rfl, hown5, hch5⟩; rw [HN2.out] at hown5; have hch15 : Hid (Chg [] w1 w5) := ((by repeat' (first | (with_reducible assumption) | (with_reducible exact Chg.refl _ _) | (with_reducible refine Chg.alloc ?_ _) | (with_reducible refine Chg.drewN ?_ _) | (with_reducible refine Chg.drew ?_) | (with_reducible refine Chg.strW ?_ _ _) | (with_reducible refine Chg.t0 ?_ (by with_reducible assumption)))) : Chg [] w1 w5); have h25 := h2.keep hch15.out (by simp); have c0 := h25.cell 0; have c1 := h25.cell 1; have c2 := h25.cell 2; rw [HN2.out])
        | (refine step_append_rd _ (by rfl) (.tmp 17) (.tmp 21) 47 (by rfl) w1.heap.size 5 i0 _ 1 1 Try.underlying47 hi hz0 hz1 hz2 rfl (by omega) (.slice A3 N1.length c3) N1.length (cB N1) (by rfl) (own_k0 hown3 (by repeat' (first | (with_reducible assumption) | (with_reducible exact Chg.refl _ _) | (with_reducible refine Chg.alloc ?_ _) | (with_reducible refine Chg.drewN ?_ _) | (with_reducible refine Chg.drew ?_) | (with_reducible refine Chg.strW ?_ _ _) | (with_reducible refine Chg.t0 ?_ (by with_reducible assumption))))) A5 N2.length c5 (cB N2) (by rfl) (Rd.k0 (Rd.of_own hown5) (by repeat' (first | (with_reducible assumption) | (with_reducible exact Chg.refl _ _) | (with_reducible refine Chg.alloc ?_ _) | (with_reducible refine Chg.drewN ?_ _) | (with_reducible refine Chg.drew ?_) | (with_reducible refine Chg.strW ?_ _ _) | (with_reducible refine Chg.t0 ?_ (by with_reducible assumption))))) (cB_one _) (by unfold maxLen; omega) (by omega) (by have hz15 := hch15.out.size; first | exact hz15 | (simp; omega)) ?_; intro A6 c6 w6 hown6 hg6 hb6; have hch16 : Chg [] w1 w6 := (show Chg [] w1 _ from (by repeat' (first | (with_reducible assumption) | (with_reducible exact Chg.refl _ _) | (with_reducible refine Chg.alloc ?_ _) | (with_reducible refine Chg.drewN ?_ _) | (with_reducible refine Chg.drew ?_) | (with_reducible refine Chg.strW ?_ _ _) | (with_reducible refine Chg.t0 ?_ (by with_reducible assumption))))).grown hg6 (fun k hk => .inr (hown3.lt k hk).1); simp only [List.getElem_toArray, List.getElem_cons_succ, List.getElem_cons_zero]))
    all_goals
      go_wp2_with (fail)
      go_meet
      exact ⟨A6, c6, by rw [List.length_append], by rw [cB_app, List.length_append]; exact hown6, hch16⟩
  case rest =>
    obtain ⟨A5, c5, rfl, hown5, hch5⟩ := hcut
    clear kstr ksz kce kdr c0 c1 c2 c7 hlt
    have hEM : (N1 ++ N2).length ≤ 100 := by simp; omega
    obtain ⟨M, HM⟩ : ∃ M, Hid (N1 ++ N2 = M) := ⟨_, rfl⟩
    rw [HM.out] at hown5 hEM HE ⊢
    have h5 := h2.keep hch5 (by simp)
    have c3 := h5.cell 3
    have c4 := h5.cell 4
    have c8 := h5.cell 8
    have hEN : (encs ([m, c, 0, ttl].map clamp)).length ≤ 40 := by
      have h1 := enc_len9 (clamp_le m)
      have h2 := enc_len9 (clamp_le c)
      have h3 := enc_len9 (clamp_le 0)
      have h4 := enc_len9 (clamp_le ttl)
      simp [encs] at *; omega
    obtain ⟨N, HN⟩ : ∃ N, Hid (encs ([m, c, 0, ttl].map clamp) = N) := ⟨_, rfl⟩
    rw [HN.out] at hEN HE
    go_wp2_with (fail)
    refine (refNums_any _ _ _ _ [m, c, 0, ttl] rfl (Rd.new' rfl rfl rfl) (by simp) (by intro z hz; simp at hz; rcases hz with rfl | rfl | rfl | rfl <;> omega)).mono ?_
    rw [HN.out]
    rintro e w6 ⟨A6, c6, rfl, hown6, hch6⟩
    have hch16 : Hid (Chg [] wc w6) := ((by repeat' (first | (with_reducible assumption) | (with_reducible exact Chg.refl _ _) | (with_reducible refine Chg.alloc ?_ _) | (with_reducible refine Chg.drewN ?_ _) | (with_reducible refine Chg.drew ?_) | (with_reducible refine Chg.strW ?_ _ _) | (with_reducible refine Chg.t0 ?_ (by with_reducible assumption)))) : Chg [] wc w6)
    have hs16 := hch5.size
    have hs17 := hch16.out.size
    have hown5' := own_k0 hown5 hch16.out
    go_wp2_with (at_builtin; refine wpList_append_rd _ rfl (.tmp 23) (.tmp 37) 47 (by rfl) w1.heap.size 5 i0 _ 1 1 Try.underlying47 hi hz0 hz1 hz2 rfl (by omega) (.slice A5 M.length c5) M.length (cB M) (by rfl) hown5' A6 N.length c6 (cB N) (by rfl) (Rd.of_own hown6) (cB_one _) (by unfold maxLen; omega) (by omega) (by omega) ?_; intro A7 c7 w7 hown7 hg7 hb7; have hch17 : Chg [] w1 w7 := (hch5.trans hch16.out (by simp)).grown hg7 (fun k hk => .inr (hown5.lt k hk).1); have h7 := h2.keep hch17 (by simp); have c6' := h7.cell 6)
    rw [← cB_app, ← List.length_append] at hown7
    rw [← List.length_append]
    have hEO : (M ++ N).length ≤ 140 := by simp; omega
    obtain ⟨O, HO⟩ : ∃ O, Hid (M ++ N = O) := ⟨_, rfl⟩
    rw [HO.out] at hown7 hEO HE ⊢
    clear hown5 hown5' hch5 hg7 hb7 c3 c4 c8 h5 hch6 hown6
    have hEV : (enc val.length ++ val).length ≤ 1100 := by
      have h1 := enc_len9 (show val.length ≤ 4611686018427387904 by omega)
      simp; omega
    obtain ⟨V, HV2⟩ : ∃ V, Hid (enc val.length ++ val = V) := ⟨_, rfl⟩
    rw [HV2.out] at hEV HE
    go_wp2_with (fail)
    refine (refBytes_any _ _ _ _ val rfl (HR.out.keep0 (hchw.out.trans hch17 (by simp))) (by omega)).mono ?_
    rw [HV2.out]
    rintro e w8 ⟨A8, c8, rfl, hown8, hch8⟩
    have hs18 := hch17.size
    have hs19 := hch8.size
    have hown7' := own_k0 hown7 hch8
    go_wp2_with (at_builtin; refine wpList_append_rd _ rfl (.tmp 39) (.tmp 43) 47 (by rfl) w1.heap.size 5 i0 _ 1 1 Try.underlying47 hi hz0 hz1 hz2 rfl (by omega) (.slice A7 O.length c7) O.length (cB O) (by rfl) hown7' A8 V.length c8 (cB V) (by rfl) (Rd.of_own hown8) (cB_one _) (by unfold maxLen; omega) (by omega) (by omega) ?_; intro A9 c9 w9 hown9 hg9 hb9)
    have hch19 : Chg [] w1 w9 := (hch17.trans hch8 (by simp)).grown hg9 (fun k hk => .inr (hown7.lt k hk).1)
    go_ret2
    rw [HE.out]
    rw [cB_app, List.length_append]
    exact ⟨A9, c9, rfl, own_up hown9 hchw.out.size, hchw.out.trans hch19 (by simp)⟩
end Go.Proofs.Ytdfkednggjelcaa
namespace Go.Proofs.Ytdfkednggjelcaa
open Go.RowKit
set_option linter.unusedVariables false

set_option maxRecDepth 100000 in
set_option maxHeartbeats 6400000 in
theorem refEncR_yes1 (w : World) (o q : Int) (key : List UInt8) (m c vo : Int) (A : Option Addr) (val : List UInt8) (cp : Nat) (ttl : Int) (h : isR ⟨o, q, key, m, c, vo, val, true, ttl⟩ = true) (hr : Rd w 1 A val.length (cB val)) :
    Calls Try.prog 81 #[.agg #[.int .i64 o, .int .i64 q, .string ⟨key.toArray⟩, .int .i64 m, .int .i64 c, .int .i64 vo, .slice A val.length cp, .bool true, .int .i64 ttl]] w fun e w' =>
      ∃ A' c', e = .returned (.tuple #[.slice A' (encR ⟨o, q, key, m, c, vo, val, true, ttl⟩).length c', .int .i64 0]) ∧
        w'.ownsRow w.heap.size 5 1 (.slice A' (encR ⟨o, q, key, m, c, vo, val, true, ttl⟩).length c') (encR ⟨o, q, key, m, c, vo, val, true, ttl⟩).length (cB (encR ⟨o, q, key, m, c, vo, val, true, ttl⟩)) ∧ Chg [] w w' := by
  have hI := isR_iff.1 h
  obtain ⟨hst, b1, b2, b3, b4, hk1, hk, b5, hv, b6, b7, hgg⟩ := hI
  clear hgg
  obtain ⟨b8, b9, b10, b11⟩ := isS_iff.1 hst
  simp only at b1 b2 b3 b4 hk b5 hv b6 b7 b8 b9 b10 b11
  have H := Lib.hid h
  have HR := Lib.hid hr
  clear h hr hst hk1 b5
  obtain ⟨i0, hi, hz0, hz1, hz2⟩ := info_parts info8
  have h1 := At.new w 51 #[.int .i64 o, .int .i64 q, .string ⟨key.toArray⟩, .int .i64 m, .int .i64 c, .int .i64 vo, .slice A val.length cp, .bool true, .int .i64 ttl]
  have hz : w.heap.size < (w.alloc (.cells #[.int .i64 o, .int .i64 q, .string ⟨key.toArray⟩, .int .i64 m, .int .i64 c, .int .i64 vo, .slice A val.length cp, .bool true, .int .i64 ttl] 51)).heap.size := by simp
  have hch0 : Chg [] w (w.alloc (.cells #[.int .i64 o, .int .i64 q, .string ⟨key.toArray⟩, .int .i64 m, .int .i64 c, .int .i64 vo, .slice A val.length cp, .bool true, .int .i64 ttl] 51)) := (Chg.refl _ _).alloc _
  go_enter Try.func81, Try.ntmps81
  go_wp2_with (fail)
  refine (refIsR_any _ o q key m c vo A val cp true ttl).mono ?_
  rw [H.out]
  rintro e w1 ⟨rfl, hch1⟩
  have h2 := h1.keep hch1 (by simp)
  have hchw := Lib.hid (hch0.trans hch1 (by simp))
  have c0 := h2.cell 0
  have c1 := h2.cell 1
  have c2 := h2.cell 2
  have c7 := h2.cell 7
  have hlt := h2.lt
  clear h1 hz hch0 hch1
  have kstr := fun w => run_strW (P := Try.prog) 9 47 5 Try.underlying9 Try.underlying47 Try.underlying5 key w
  have ksz := fun w => strW_size 5 key w
  have kdr : ∀ w : World, w.drew.heap.size = w.heap.size := fun _ => rfl
  have kce := fun w => strW_cell 5 key w
  have HE : Hid (encR ⟨o, q, key, m, c, vo, val, true, ttl⟩ = (((([] ++ encs ([o, q].map clamp)) ++ encRows [key]) ++ encs ([m, c, goneN true, ttl].map clamp)) ++ encRows [val])) := rfl
  rw [show goneN true = 1 from rfl, List.nil_append] at HE
  have hE1 : (encs ([o, q].map clamp)).length ≤ 20 := by
    have h1 := enc_len9 (clamp_le o)
    have h2 := enc_len9 (clamp_le q)
    simp [encs]; omega
  have HK : Hid (encRows [key] = enc key.length ++ key) := by simp [encRows, Hid]
  have HV : Hid (encRows [val] = enc val.length ++ val) := by simp [encRows, Hid]
  have hE2 : (enc key.length ++ key).length ≤ 80 := by
    have h1 := enc_len9 (show key.length ≤ 4611686018427387904 by omega)
    simp; omega
  rw [HK.out, HV.out] at HE
  obtain ⟨N1, HN1⟩ : ∃ N1, Hid (encs ([o, q].map clamp) = N1) := ⟨_, rfl⟩
  obtain ⟨N2, HN2⟩ : ∃ N2, Hid (enc key.length ++ key = N2) := ⟨_, rfl⟩
  rw [HN1.out, HN2.out] at HE
  rw [HN1.out] at hE1
  rw [HN2.out] at hE2
  go_upto_region 6 with (fail)
  go_cut [5] (fun s5 wx => ∃ (A5 : Option Addr) (c5 : Nat), s5 = .slice A5 (N1 ++ N2).length c5 ∧ wx.ownsRow w1.heap.size 5 1 (.slice A5 (N1 ++ N2).length c5) (N1 ++ N2).length (cB (N1 ++ N2)) ∧ Chg [] w1 wx)
  case first =>
    go_region_held_law (fun w' => w'.cell? ⟨w.heap.size, 0, none⟩ = some (.int .i64 o) ∧ w'.cell? ⟨w.heap.size, 1, none⟩ = some (.int .i64 q) ∧ w'.cell? ⟨w.heap.size, 2, none⟩ = some (.string ⟨key.toArray⟩)) (first | exact ⟨(h2.keep (show Chg [] w1 _ from (by repeat' (first | (with_reducible assumption) | (with_reducible exact Chg.refl _ _) | (with_reducible refine Chg.alloc ?_ _) | (with_reducible refine Chg.drewN ?_ _) | (with_reducible refine Chg.drew ?_) | (with_reducible refine Chg.strW ?_ _ _) | (with_reducible refine Chg.t0 ?_ (by with_reducible assumption))))) (by simp)).cell 0, (h2.keep (show Chg [] w1 _ from (by repeat' (first | (with_reducible assumption) | (with_reducible exact Chg.refl _ _) | (with_reducible refine Chg.alloc ?_ _) | (with_reducible refine Chg.drewN ?_ _) | (with_reducible refine Chg.drew ?_) | (with_reducible refine Chg.strW ?_ _ _) | (with_reducible refine Chg.t0 ?_ (by with_reducible assumption))))) (by simp)).cell 1, (h2.keep (show Chg [] w1 _ from (by repeat' (first | (with_reducible assumption) | (with_reducible exact Chg.refl _ _) | (with_reducible refine Chg.alloc ?_ _) | (with_reducible refine Chg.drewN ?_ _) | (with_reducible refine Chg.drew ?_) | (with_reducible refine Chg.strW ?_ _ _) | (with_reducible refine Chg.t0 ?_ (by with_reducible assumption))))) (by simp)).cell 2⟩ | fail)
      (first
        | (go_simp; go_at_call 59; refine (refNums_any _ _ _ _ [o, q] rfl (by repeat' (first | (with_reducible refine Rd.drewN ?_ _) | (with_reducible refine Rd.drew ?_) | (refine Rd.new' ?_ rfl rfl; (first | rfl | (simp; done) | (simp [strW_size]; done))) | (with_reducible refine Rd.alloc ?_ _) | (with_reducible refine Rd.strW ?_ _ _))) (by simp) (by intro z hz; simp at hz; rcases hz with rfl | rfl <;> omega)).mono ?_; rintro e w3 ⟨A3, c3, rfl, hown3, hch3⟩; rw [HN1.out] at hown3; have hch13 : Hid (Chg [] w1 w3) := ((by repeat' (first | (with_reducible assumption) | (with_reducible exact Chg.refl _ _) | (with_reducible refine Chg.alloc ?_ _) | (with_reducible refine Chg.drewN ?_ _) | (with_reducible refine Chg.drew ?_) | (with_reducible refine Chg.strW ?_ _ _) | (with_reducible refine Chg.t0 ?_ (by with_reducible assumption)))) : Chg [] w1 w3); have hown3 := own_up (base' := w1.heap.size) hown3 (by first | (simp; done) | (simp [strW_size]; done) | (simp [strW_size]; omega)); have h23 := h2.keep hch13.out (by simp); have c0 := h23.cell 0; have c1 := h23.cell 1; have c2 := h23.cell 2; have hs3 := h23.lt; rw [HN1.out])
        | (go_simp; go_at_call 82; refine (refBytes_any _ _ _ _ key rfl (by repeat' (first | (with_reducible refine Rd.drewN ?_ _) | (with_reducible refine Rd.drew ?_) | (with_reducible refine Rd.alloc ?_ _) | (refine strW_rd' ?_; (first | rfl | (simp; done) | (simp [strW_size]; done))) | (with_reducible refine Rd.k0 ?_ (by with_reducible assumption)))) (by omega)).mono ?_; rintro e w5 ⟨A5, c5, rfl, hown5, hch5⟩; rw [HN2.out] at hown5; have hch15 : Hid (Chg [] w1 w5) := ((by repeat' (first | (with_reducible assumption) | (with_reducible exact Chg.refl _ _) | (with_reducible refine Chg.alloc ?_ _) | (with_reducible refine Chg.drewN ?_ _) | (with_reducible refine Chg.drew ?_) | (with_reducible refine Chg.strW ?_ _ _) | (with_reducible refine Chg.t0 ?_ (by with_reducible assumption)))) : Chg [] w1 w5); have h25 := h2.keep hch15.out (by simp); have c0 := h25.cell 0; have c1 := h25.cell 1; have c2 := h25.cell 2; rw [HN2.out])
        | (refine step_append_rd _ (by rfl) (.tmp 17) (.tmp 21) 47 (by rfl) w1.heap.size 5 i0 _ 1 1 Try.underlying47 hi hz0 hz1 hz2 rfl (by omega) (.slice A3 N1.length c3) N1.length (cB N1) (by rfl) (own_k0 hown3 (by repeat' (first | (with_reducible assumption) | (with_reducible exact Chg.refl _ _) | (with_reducible refine Chg.alloc ?_ _) | (with_reducible refine Chg.drewN ?_ _) | (with_reducible refine Chg.drew ?_) | (with_reducible refine Chg.strW ?_ _ _) | (with_reducible refine Chg.t0 ?_ (by with_reducible assumption))))) A5 N2.length c5 (cB N2) (by rfl) (Rd.k0 (Rd.of_own hown5) (by repeat' (first | (with_reducible assumption) | (with_reducible exact Chg.refl _ _) | (with_reducible refine Chg.alloc ?_ _) | (with_reducible refine Chg.drewN ?_ _) | (with_reducible refine Chg.drew ?_) | (with_reducible refine Chg.strW ?_ _ _) | (with_reducible refine Chg.t0 ?_ (by with_reducible assumption))))) (cB_one _) (by unfold maxLen; omega) (by omega) (by have hz15 := hch15.out.size; first | exact hz15 | (simp; omega)) ?_; intro A6 c6 w6 hown6 hg6 hb6; have hch16 : Chg [] w1 w6 := (show Chg [] w1 _ from (by repeat' (first | (with_reducible assumption) | (with_reducible exact Chg.refl _ _) | (with_reducible refine Chg.alloc ?_ _) | (with_reducible refine Chg.drewN ?_ _) | (with_reducible refine Chg.drew ?_) | (with_reducible refine Chg.strW ?_ _ _) | (with_reducible refine Chg.t0 ?_ (by with_reducible assumption))))).grown hg6 (fun k hk => .inr (hown3.lt k hk).1); simp only [List.getElem_toArray, List.getElem_cons_succ, List.getElem_cons_zero]))
    all_goals
      go_wp2_with (fail)
      go_meet
      exact ⟨A6, c6, by rw [List.length_append], by rw [cB_app, List.length_append]; exact hown6, hch16⟩
  case rest =>
    obtain ⟨A5, c5, rfl, hown5, hch5⟩ := hcut
    clear kstr ksz kce kdr c0 c1 c2 c7 hlt
    have hEM : (N1 ++ N2).length ≤ 100 := by simp; omega
    obtain ⟨M, HM⟩ : ∃ M, Hid (N1 ++ N2 = M) := ⟨_, rfl⟩
    rw [HM.out] at hown5 hEM HE ⊢
    have h5 := h2.keep hch5 (by simp)
    have c3 := h5.cell 3
    have c4 := h5.cell 4
    have c8 := h5.cell 8
    have hEN : (encs ([m, c, 1, ttl].map clamp)).length ≤ 40 := by
      have h1 := enc_len9 (clamp_le m)
      have h2 := enc_len9 (clamp_le c)
      have h3 := enc_len9 (clamp_le 1)
      have h4 := enc_len9 (clamp_le ttl)
      simp [encs] at *; omega
    obtain ⟨N, HN⟩ : ∃ N, Hid (encs ([m, c, 1, ttl].map clamp) = N) := ⟨_, rfl⟩
    rw [HN.out] at hEN HE
    go_wp2_with (fail)
    refine (refNums_any _ _ _ _ [m, c, 1, ttl] rfl (Rd.new' rfl rfl rfl) (by simp) (by intro z hz; simp at hz; rcases hz with rfl | rfl | rfl | rfl <;> omega)).mono ?_
    rw [HN.out]
    rintro e w6 ⟨A6, c6, rfl, hown6, hch6⟩
    have hch16 : Hid (Chg [] wc w6) := ((by repeat' (first | (with_reducible assumption) | (with_reducible exact Chg.refl _ _) | (with_reducible refine Chg.alloc ?_ _) | (with_reducible refine Chg.drewN ?_ _) | (with_reducible refine Chg.drew ?_) | (with_reducible refine Chg.strW ?_ _ _) | (with_reducible refine Chg.t0 ?_ (by with_reducible assumption)))) : Chg [] wc w6)
    have hs16 := hch5.size
    have hs17 := hch16.out.size
    have hown5' := own_k0 hown5 hch16.out
    go_wp2_with (at_builtin; refine wpList_append_rd _ rfl (.tmp 23) (.tmp 37) 47 (by rfl) w1.heap.size 5 i0 _ 1 1 Try.underlying47 hi hz0 hz1 hz2 rfl (by omega) (.slice A5 M.length c5) M.length (cB M) (by rfl) hown5' A6 N.length c6 (cB N) (by rfl) (Rd.of_own hown6) (cB_one _) (by unfold maxLen; omega) (by omega) (by omega) ?_; intro A7 c7 w7 hown7 hg7 hb7; have hch17 : Chg [] w1 w7 := (hch5.trans hch16.out (by simp)).grown hg7 (fun k hk => .inr (hown5.lt k hk).1); have h7 := h2.keep hch17 (by simp); have c6' := h7.cell 6)
    rw [← cB_app, ← List.length_append] at hown7
    rw [← List.length_append]
    have hEO : (M ++ N).length ≤ 140 := by simp; omega
    obtain ⟨O, HO⟩ : ∃ O, Hid (M ++ N = O) := ⟨_, rfl⟩
    rw [HO.out] at hown7 hEO HE ⊢
    clear hown5 hown5' hch5 hg7 hb7 c3 c4 c8 h5 hch6 hown6
    have hEV : (enc val.length ++ val).length ≤ 1100 := by
      have h1 := enc_len9 (show val.length ≤ 4611686018427387904 by omega)
      simp; omega
    obtain ⟨V, HV2⟩ : ∃ V, Hid (enc val.length ++ val = V) := ⟨_, rfl⟩
    rw [HV2.out] at hEV HE
    go_wp2_with (fail)
    refine (refBytes_any _ _ _ _ val rfl (HR.out.keep0 (hchw.out.trans hch17 (by simp))) (by omega)).mono ?_
    rw [HV2.out]
    rintro e w8 ⟨A8, c8, rfl, hown8, hch8⟩
    have hs18 := hch17.size
    have hs19 := hch8.size
    have hown7' := own_k0 hown7 hch8
    go_wp2_with (at_builtin; refine wpList_append_rd _ rfl (.tmp 39) (.tmp 43) 47 (by rfl) w1.heap.size 5 i0 _ 1 1 Try.underlying47 hi hz0 hz1 hz2 rfl (by omega) (.slice A7 O.length c7) O.length (cB O) (by rfl) hown7' A8 V.length c8 (cB V) (by rfl) (Rd.of_own hown8) (cB_one _) (by unfold maxLen; omega) (by omega) (by omega) ?_; intro A9 c9 w9 hown9 hg9 hb9)
    have hch19 : Chg [] w1 w9 := (hch17.trans hch8 (by simp)).grown hg9 (fun k hk => .inr (hown7.lt k hk).1)
    go_ret2
    rw [HE.out]
    rw [cB_app, List.length_append]
    exact ⟨A9, c9, rfl, own_up hown9 hchw.out.size, hchw.out.trans hch19 (by simp)⟩
end Go.Proofs.Ytdfkednggjelcaa
namespace Go.Proofs.Ytdfkednggjelcaa
open Go.RowKit
theorem refEncR_yes (w : World) (o q : Int) (key : List UInt8) (m c vo : Int) (A : Option Addr) (val : List UInt8) (cp : Nat) (gone : Bool) (ttl : Int) (h : isR ⟨o, q, key, m, c, vo, val, gone, ttl⟩ = true) (hr : Rd w 1 A val.length (cB val)) :
    Calls Try.prog 81 #[.agg #[.int .i64 o, .int .i64 q, .string ⟨key.toArray⟩, .int .i64 m, .int .i64 c, .int .i64 vo, .slice A val.length cp, .bool gone, .int .i64 ttl]] w fun e w' =>
      ∃ A' c', e = .returned (.tuple #[.slice A' (encR ⟨o, q, key, m, c, vo, val, gone, ttl⟩).length c', .int .i64 0]) ∧
        w'.ownsRow w.heap.size 5 1 (.slice A' (encR ⟨o, q, key, m, c, vo, val, gone, ttl⟩).length c') (encR ⟨o, q, key, m, c, vo, val, gone, ttl⟩).length (cB (encR ⟨o, q, key, m, c, vo, val, gone, ttl⟩)) ∧ Chg [] w w' := by
  cases gone
  · exact refEncR_yes0 w o q key m c vo A val cp ttl h hr
  · exact refEncR_yes1 w o q key m c vo A val cp ttl h hr
end Go.Proofs.Ytdfkednggjelcaa
