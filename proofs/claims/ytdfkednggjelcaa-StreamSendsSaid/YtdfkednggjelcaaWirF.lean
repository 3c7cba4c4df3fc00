
/-
  the reference's Encode.
-/
import Derived.Test.YtdfkednggjelcaaWirA3
import Derived.Test.YtdfkednggjelcaaWirA2
import Derived.Test.YtdfkednggjelcaaRecLi2
import Derived.Test.YtdfkednggjelcaaFraE
import Derived.Test.YtdfkednggjelcaaMRef
import Derived.OpenShut
namespace Go.Proofs.Ytdfkednggjelcaa
open Go.RowKit
set_option linter.unusedVariables false

def REncPost (w : World) (t : List UInt8 × Nat) (e : Ending) (w' : World) : Prop := ∃ A c, e = .returned (.tuple #[.slice A t.1.length c, .int .i64 t.2]) ∧ Rd w' 1 A t.1.length (cB t.1) ∧ Chg [] w w'
theorem isW_b3 {sm sc fm fc : Int} (h1 : isS sm sc = true) (h2 : isS fm fc = true) : ∀ z ∈ [sm, sc, fm, fc], -9223372036854775808 ≤ z ∧ z ≤ 9223372036854775807 := by
  obtain ⟨a1, a2, a3, a4⟩ := isS_iff.1 h1
  obtain ⟨b1, b2, b3, b4⟩ := isS_iff.1 h2
  intro z hz
  simp only [List.mem_cons, List.not_mem_nil, or_false] at hz
  rcases hz with rfl | rfl | rfl | rfl <;> omega

set_option maxRecDepth 100000 in
set_option maxHeartbeats 6400000 in
theorem refEncW_any (w : World) (kd o q sm sc fm fc : Int) (A : Option Addr) (n c : Nat) (ls : List RcV) (hn : ls.length = n) (hr : Rd w 9 A ls.length (cRc ls)) (hrs : ∀ x ∈ ls, Rd w 1 x.A x.r.val.length (cB x.r.val)) (hls : ls.length ≤ 1099511627776) :
    Calls Try.prog 43 #[.agg #[.int .i64 kd, .int .i64 o, .int .i64 q, .int .i64 sm, .int .i64 sc, .int .i64 fm, .int .i64 fc, .slice A n c]] w
      (REncPost w (encW ⟨kd, o, q, sm, sc, fm, fc, ls.map RcV.r⟩)) := by
  subst hn
  obtain ⟨i0, hi, hz0, hz1, hz2⟩ := info_parts info8
  have RR := Lib.hid hr
  have RS := Lib.hid hrs
  have HI := Lib.hid (refIsW_any (w.alloc (.cells #[.int .i64 kd, .int .i64 o, .int .i64 q, .int .i64 sm, .int .i64 sc, .int .i64 fm, .int .i64 fc, .slice A ls.length c] 59)) kd o q sm sc fm fc A _ c ls rfl (hr.alloc _) hls)
  have HK := Lib.hid (fun h => isW_kind (x := ⟨kd, o, q, sm, sc, fm, fc, ls.map RcV.r⟩) h)
  have HL := Lib.hid (fun h => bodyW_len (x := ⟨kd, o, q, sm, sc, fm, fc, ls.map RcV.r⟩) h)
  have HH := Lib.hid (fun h => isW_head (x := ⟨kd, o, q, sm, sc, fm, fc, ls.map RcV.r⟩) h)
  have h0 := Chg.alloc (.refl [] w) (.cells #[.int .i64 kd, .int .i64 o, .int .i64 q, .int .i64 sm, .int .i64 sc, .int .i64 fm, .int .i64 fc, .slice A ls.length c] 59)
  have a0 := At.new w 59 #[.int .i64 kd, .int .i64 o, .int .i64 q, .int .i64 sm, .int .i64 sc, .int .i64 fm, .int .i64 fc, .slice A ls.length c]
  clear hr hrs
  obtain ⟨s, hs⟩ : ∃ s, Hid (isW ⟨kd, o, q, sm, sc, fm, fc, ls.map RcV.r⟩ = s) := ⟨_, rfl⟩
  rw [hs.out] at HI HK HL HH
  cases s
  · have HE := Lib.hid (encW_no hs.out)
    go_enter Try.func43, Try.ntmps43
    go_wp2_with (fail)
    refine HI.out.mono ?_
    rintro e w1 ⟨rfl, hch1⟩
    go_wp2_with (fail)
    go_ret2
    rw [HE.out]
    exact ⟨none, 0, rfl, Rd.nil _ _ _, h0.trans hch1 (by simp)⟩
  have HE := Lib.hid (encW_yes hs.out)
  have hbl := HL.out rfl
  have HK' := HK.out rfl
  obtain ⟨b1, b2, b3, b4⟩ := HH.out rfl
  simp only at HK' b1 b2 b3 b4
  have hbd : ∀ k : Int, 0 ≤ k → k ≤ 3 → ∀ z ∈ [k, o, q], -9223372036854775808 ≤ z ∧ z ≤ 9223372036854775807 := by
    intro k h1 h2 z hz
    simp only [List.mem_cons, List.not_mem_nil, or_false] at hz
    rcases hz with rfl | rfl | rfl <;> omega
  clear HK HL HH b1 b2 b3 b4
  rcases HK' with ⟨rfl, -, hg⟩ | ⟨rfl, -, -⟩ | ⟨rfl, hs1', hs2', -⟩
  · obtain ⟨hgl, hg1, hg64⟩ := goesW_iff.1 hg
    simp only [List.length_map] at hgl hg1 hg64
    have HLI : Hid (lstR (ls.map RcV.r) = (encL (ls.map RcV.r), 0)) := lstR_0 (by simpa using hg64) (fun r hr => isR_iff.2 (goesL_mem hgl r hr))
    rw [bodyW_1] at HE hbl
    have HBD := Lib.hid (hbd 1 (by omega) (by omega))
    clear hg hgl hbd
    obtain ⟨EL, hEL⟩ : ∃ EL, Hid (encL (ls.map RcV.r) = EL) := ⟨_, rfl⟩
    rw [hEL.out] at HE hbl HLI
    go_enter Try.func43, Try.ntmps43
    go_wp2_with (fail)
    refine HI.out.mono ?_
    rintro e w1 ⟨rfl, hch1⟩
    have a1 := a0.keep hch1 (by simp)
    have c1 := h0.trans hch1 (by simp)
    have x0 := a1.cell 0
    have x1 := a1.cell 1
    have x2 := a1.cell 2
    simp only [List.getElem?_toArray, List.getElem?_cons_zero, List.getElem?_cons_succ] at x0 x1 x2
    clear HI a0 h0 hch1
    go_wp2_with (fail)
    refine (refNums_any _ (some ⟨w1.heap.size, 0, none⟩) 3 3 [1, o, q] rfl (Rd.new' rfl rfl rfl) (by simp) HBD.out).mono ?_
    rintro e w3 ⟨A3, c3, rfl, hown3, hch3⟩
    have q1 := (Chg.refl [] w1).alloc (.cells #[.int .i64 1, .int .i64 o, .int .i64 q] 3)
    have a3 := (a1.al (.cells #[.int .i64 1, .int .i64 o, .int .i64 q] 3)).keep hch3 (by simp)
    have cc3 := (c1.t0 q1).trans hch3 (by simp)
    have hown3 := own_up hown3 (show w1.heap.size ≤ (w1.alloc (.cells #[.int .i64 1, .int .i64 o, .int .i64 q] 3)).heap.size by simp)
    have hs1 := c1.size
    have hs3 : w1.heap.size ≤ w3.heap.size := by have h := hch3.size; simp at h; omega
    obtain ⟨NN, hNN⟩ : ∃ NN, Hid (encs ([1, o, q].map clamp) = NN) := ⟨_, rfl⟩
    rw [hNN.out] at hown3 HE hbl ⊢
    clear a1 x0 x1 x2 q1 hch3
    have y0 := a3.cell 0
    have y1 := a3.cell 1
    have y2 := a3.cell 2
    have y3 := a3.cell 3
    have y4 := a3.cell 4
    have y5 := a3.cell 5
    have y6 := a3.cell 6
    have y7 := a3.cell 7
    simp only [List.getElem?_toArray, List.getElem?_cons_zero, List.getElem?_cons_succ] at y0 y1 y2 y3 y4 y5 y6 y7
    have hlE : EL.length ≤ 77000 := by rw [List.length_append] at hbl; omega
    have hlN : NN.length ≤ 77000 := by rw [List.length_append] at hbl; omega
    go_wp2_with (fail)
    refine (refListR_any w3 A _ c ls rfl (RR.out.keep0 cc3) (fun x hx => (RS.out x hx).keep0 cc3) hls).mono ?_
    rintro e w4 ⟨A4, c4, rfl, hown4, hch4⟩
    rw [HLI.out] at hown4 ⊢
    simp only at hown4 ⊢
    have hown3' := own_k0 hown3 hch4
    have cc4 := cc3.trans hch4 (by simp)
    have hs4 := hch4.size
    have a4 := a3.keep hch4 (by simp)
    clear y0 y1 y2 y3 y4 y5 y6 y7 hown3 cc3 a3
    have y0 := a4.cell 0
    have y1 := a4.cell 1
    have y2 := a4.cell 2
    have y3 := a4.cell 3
    have y4 := a4.cell 4
    have y5 := a4.cell 5
    have y6 := a4.cell 6
    have y7 := a4.cell 7
    simp only [List.getElem?_toArray, List.getElem?_cons_zero, List.getElem?_cons_succ] at y0 y1 y2 y3 y4 y5 y6 y7
    go_wp2_with (at_builtin; refine wpList_append_rd _ rfl (.tmp 28) (.tmp 29) 47 (by rfl) w1.heap.size 5 i0 _ 1 1 Try.underlying47 hi hz0 hz1 hz2 rfl (by omega) (.slice A3 NN.length c3) NN.length (cB NN) (by rfl) hown3' A4 EL.length c4 (cB EL) (by rfl) (Rd.of_own hown4) (cB_one _) (by unfold maxLen; omega) (by omega) (by omega) ?_; intro A5 c5 w5 hownP hg5 hb5)
    rw [← cB_app, ← List.length_append] at hownP
    have ccP : Chg [] w w5 := cc4.grown hg5 (fun k hk => .inr (by have := (hown3'.lt k hk).1; omega))
    have hPl : Hid ((NN ++ EL).length = NN.length + EL.length) := List.length_append
    clear hg5 hb5 hown3' cc4
    generalize hP : NN ++ EL = P at *
    refine (refEncF_any w5 A5 _ c5 P (by first | rfl | exact hPl.out) (Rd.of_own hownP) (by omega)).mono ?_
    rintro e w7 ⟨A7, c7, rfl, hown7, hch7⟩
    go_wp2_with (fail)
    go_ret2
    rw [HE.out]
    exact ⟨A7, c7, rfl, Rd.of_own hown7, ccP.trans hch7 (by simp)⟩
  · rw [bodyW_2] at HE hbl
    have HBD := Lib.hid (hbd 2 (by omega) (by omega))
    clear hbd
    go_enter Try.func43, Try.ntmps43
    go_wp2_with (fail)
    refine HI.out.mono ?_
    rintro e w1 ⟨rfl, hch1⟩
    have a1 := a0.keep hch1 (by simp)
    have c1 := h0.trans hch1 (by simp)
    have x0 := a1.cell 0
    have x1 := a1.cell 1
    have x2 := a1.cell 2
    simp only [List.getElem?_toArray, List.getElem?_cons_zero, List.getElem?_cons_succ] at x0 x1 x2
    clear HI a0 h0 hch1
    go_wp2_with (fail)
    refine (refNums_any _ (some ⟨w1.heap.size, 0, none⟩) 3 3 [2, o, q] rfl (Rd.new' rfl rfl rfl) (by simp) HBD.out).mono ?_
    rintro e w3 ⟨A3, c3, rfl, hown3, hch3⟩
    have q1 := (Chg.refl [] w1).alloc (.cells #[.int .i64 2, .int .i64 o, .int .i64 q] 3)
    have a3 := (a1.al (.cells #[.int .i64 2, .int .i64 o, .int .i64 q] 3)).keep hch3 (by simp)
    have cc3 := (c1.t0 q1).trans hch3 (by simp)
    have hown3 := own_up hown3 (show w1.heap.size ≤ (w1.alloc (.cells #[.int .i64 2, .int .i64 o, .int .i64 q] 3)).heap.size by simp)
    have hs1 := c1.size
    have hs3 : w1.heap.size ≤ w3.heap.size := by have h := hch3.size; simp at h; omega
    obtain ⟨NN, hNN⟩ : ∃ NN, Hid (encs ([2, o, q].map clamp) = NN) := ⟨_, rfl⟩
    rw [hNN.out] at hown3 HE hbl ⊢
    clear a1 x0 x1 x2 q1 hch3
    have y0 := a3.cell 0
    have y1 := a3.cell 1
    have y2 := a3.cell 2
    have y3 := a3.cell 3
    have y4 := a3.cell 4
    have y5 := a3.cell 5
    have y6 := a3.cell 6
    have y7 := a3.cell 7
    simp only [List.getElem?_toArray, List.getElem?_cons_zero, List.getElem?_cons_succ] at y0 y1 y2 y3 y4 y5 y6 y7
    have hPl : Hid (NN.length = NN.length) := rfl
    have hownP := hown3
    have ccP := cc3
    generalize hP : NN = P at *
    go_wp2_with (fail)
    refine (refEncF_any w3 A3 _ c3 P (by first | rfl | exact hPl.out) (Rd.of_own hownP) (by omega)).mono ?_
    rintro e w7 ⟨A7, c7, rfl, hown7, hch7⟩
    go_wp2_with (fail)
    go_ret2
    rw [HE.out]
    exact ⟨A7, c7, rfl, Rd.of_own hown7, ccP.trans hch7 (by simp)⟩
  · rw [bodyW_3] at HE hbl
    have HBD := Lib.hid (hbd 3 (by omega) (by omega))
    have HBS := Lib.hid (isW_b3 hs1' hs2')
    clear hbd hs1' hs2'
    go_enter Try.func43, Try.ntmps43
    go_wp2_with (fail)
    refine HI.out.mono ?_
    rintro e w1 ⟨rfl, hch1⟩
    have a1 := a0.keep hch1 (by simp)
    have c1 := h0.trans hch1 (by simp)
    have x0 := a1.cell 0
    have x1 := a1.cell 1
    have x2 := a1.cell 2
    simp only [List.getElem?_toArray, List.getElem?_cons_zero, List.getElem?_cons_succ] at x0 x1 x2
    clear HI a0 h0 hch1
    go_wp2_with (fail)
    refine (refNums_any _ (some ⟨w1.heap.size, 0, none⟩) 3 3 [3, o, q] rfl (Rd.new' rfl rfl rfl) (by simp) HBD.out).mono ?_
    rintro e w3 ⟨A3, c3, rfl, hown3, hch3⟩
    have q1 := (Chg.refl [] w1).alloc (.cells #[.int .i64 3, .int .i64 o, .int .i64 q] 3)
    have a3 := (a1.al (.cells #[.int .i64 3, .int .i64 o, .int .i64 q] 3)).keep hch3 (by simp)
    have cc3 := (c1.t0 q1).trans hch3 (by simp)
    have hown3 := own_up hown3 (show w1.heap.size ≤ (w1.alloc (.cells #[.int .i64 3, .int .i64 o, .int .i64 q] 3)).heap.size by simp)
    have hs1 := c1.size
    have hs3 : w1.heap.size ≤ w3.heap.size := by have h := hch3.size; simp at h; omega
    obtain ⟨NN, hNN⟩ : ∃ NN, Hid (encs ([3, o, q].map clamp) = NN) := ⟨_, rfl⟩
    rw [hNN.out] at hown3 HE hbl ⊢
    clear a1 x0 x1 x2 q1 hch3
    have y0 := a3.cell 0
    have y1 := a3.cell 1
    have y2 := a3.cell 2
    have y3 := a3.cell 3
    have y4 := a3.cell 4
    have y5 := a3.cell 5
    have y6 := a3.cell 6
    have y7 := a3.cell 7
    simp only [List.getElem?_toArray, List.getElem?_cons_zero, List.getElem?_cons_succ] at y0 y1 y2 y3 y4 y5 y6 y7
    obtain ⟨EL, hEL⟩ : ∃ EL, Hid (encs ([sm, sc, fm, fc].map clamp) = EL) := ⟨_, rfl⟩
    have hlE : EL.length ≤ 77000 := by rw [List.length_append, hEL.out] at hbl; omega
    have hlN : NN.length ≤ 77000 := by rw [List.length_append] at hbl; omega
    go_wp2_with (fail)
    have q3 := (Chg.refl [] w3).alloc (.cells #[.int .i64 sm, .int .i64 sc, .int .i64 fm, .int .i64 fc] 3)
    refine (refNums_any _ (some ⟨w3.heap.size, 0, none⟩) 4 4 [sm, sc, fm, fc] rfl (Rd.new' rfl rfl rfl) (by simp) HBS.out).mono ?_
    rintro e w4 ⟨A4, c4, rfl, hown4, hch4⟩
    rw [hEL.out] at hown4 HE hbl ⊢
    have hown3' := own_k0 (own_k0 hown3 q3) hch4
    have cc4 := (cc3.t0 q3).trans hch4 (by simp)
    have hs4 : w3.heap.size ≤ w4.heap.size := by have h := hch4.size; simp at h; omega
    clear y0 y1 y2 y3 y4 y5 y6 y7 hown3 cc3 a3 q3
    go_wp2_with (at_builtin; refine wpList_append_rd _ rfl (.tmp 33) (.tmp 47) 47 (by rfl) w1.heap.size 5 i0 _ 1 1 Try.underlying47 hi hz0 hz1 hz2 rfl (by omega) (.slice A3 NN.length c3) NN.length (cB NN) (by rfl) hown3' A4 EL.length c4 (cB EL) (by rfl) (Rd.of_own hown4) (cB_one _) (by unfold maxLen; omega) (by omega) (by omega) ?_; intro A5 c5 w5 hownP hg5 hb5)
    rw [← cB_app, ← List.length_append] at hownP
    have ccP : Chg [] w w5 := cc4.grown hg5 (fun k hk => .inr (by have := (hown3'.lt k hk).1; omega))
    have hPl : Hid ((NN ++ EL).length = NN.length + EL.length) := List.length_append
    clear hg5 hb5 hown3' cc4
    generalize hP : NN ++ EL = P at *
    refine (refEncF_any w5 A5 _ c5 P (by first | rfl | exact hPl.out) (Rd.of_own hownP) (by omega)).mono ?_
    rintro e w7 ⟨A7, c7, rfl, hown7, hch7⟩
    go_wp2_with (fail)
    go_ret2
    rw [HE.out]
    exact ⟨A7, c7, rfl, Rd.of_own hown7, ccP.trans hch7 (by simp)⟩
end Go.Proofs.Ytdfkednggjelcaa
