
/-
  The reference's Decode (chapter 17).
-/
import Derived.Test.YtdfkednggjelcaaWirA2
import Derived.Test.YtdfkednggjelcaaWirA3
import Derived.Test.YtdfkednggjelcaaMRecR
import Derived.Test.YtdfkednggjelcaaMFra
namespace Go.Proofs.Ytdfkednggjelcaa
open Go.RowKit
set_option linter.unusedVariables false

theorem wdr_size : (Try.prog.info? 59).map (·.size) = some 8 := by kernel_rfl
theorem ret_wdr2 {fn : Func} {p q : Tmp} {tmps : Array Value} {w : World} {g : Nat} {T : TypeId} {cs : Array Value} {v : Value} {Post : Ending → World → Prop} (hs : cs.size = 8) (h : fn.results = #[.cell p 59, .tmp q])
    (hp : tmps.getD p undef = .pointer (some ⟨g, 0, none⟩)) (hq : tmps.getD q undef = v) (hg : At w g T cs) (hpost : Post (.returned (.tuple #[.agg cs, v])) w) :
    bodyPost Try.prog fn Post Exit.ret ⟨tmps, []⟩ w := by
  refine bodyPost_ret (v := .tuple #[.agg cs, v]) ?_ rfl hpost
  have hp' : tmps[p]?.getD undef = .pointer (some ⟨g, 0, none⟩) := by simpa using hp
  have hq' : tmps[q]?.getD undef = v := by simpa using hq
  simp [results, h, hp', hq', asAddr, run_loadVar_row w g T 59 _ (0, 0) _ hg Try.underlying59 rfl (wdr_size.trans (by rw [hs]))]
theorem numsSt_bad {L : List UInt8} : ∀ {k : Nat}, (numsSt L true k).2 = true := by
  intro k
  induction k with
  | zero => rfl
  | succ k ih => rw [numsSt]; exact takeNum_bad _ _ ih
theorem readW_bad {p : List UInt8} (h : (numsSt p false 3).2 = true) : (readW p).2 = false := by
  unfold readW
  split
  · simp [h]
  · split
    · simp only [h, numsSt_bad]; rfl
    · simp [h]
theorem decW_bad {L : List UInt8} (h : (oneF L).2 = 0) (hb : (readW (oneF L).1).2 = false) : decW L = (Wd.z, 3) := by
  unfold decW; rw [if_neg (by simpa using h), hb]; rfl
theorem decW_n {L : List UInt8} (h : (decF L).e = 0) (h2 : (decF L).n ≠ L.length) : decW L = (Wd.z, 3) := by
  rw [decW_e (by rw [oneF_3 h h2]; simp), oneF_3 h h2]
theorem decW_de {L : List UInt8} (h : (decF L).e ≠ 0) : decW L = (Wd.z, (decF L).e) := by
  rw [decW_e (by rw [oneF_e h]; exact h), oneF_e h]

set_option maxRecDepth 100000 in
set_option maxHeartbeats 12800000 in
theorem refDecW_any (w : World) (A : Option Addr) (n c : Nat) (L : List UInt8) (hn : L.length = n) (hr : Rd w 1 A L.length (cB L)) (hc : L.length ≤ c) (hl : L.length ≤ 1099511627776) :
    Calls Try.prog 25 #[.slice A n c] w (DecWPost w (decW L)) := by
  subst hn
  have HR := Lib.hid hr
  clear hr
  have H1 := Lib.hid (refDecF_any (w.alloc (.cells #[.int .i64 0, .int .i64 0, .int .i64 0, .int .i64 0, .int .i64 0, .int .i64 0, .int .i64 0, .slice none 0 0] 59)) A _ c L rfl (HR.out.alloc _) hc hl)
  have HE := Lib.hid (fun h => decW_de (L := L) h)
  have HN := Lib.hid (fun h h2 => decW_n (L := L) h h2)
  have H0 := Lib.hid (fun h h2 => oneF_0 (L := L) h h2)
  have HZ := Lib.hid (fun h => (decF_zero (L := L) h))
  obtain ⟨t, ht⟩ : ∃ t, Hid (decF L = t) := ⟨_, rfl⟩
  rw [ht.out] at H1 HE HN H0 HZ
  obtain ⟨p, m, z⟩ := t
  unfold DecFPost at H1
  simp only at H1 HE HN H0 HZ
  clear ht
  have h0 := Chg.alloc (.refl [] w) (.cells #[.int .i64 0, .int .i64 0, .int .i64 0, .int .i64 0, .int .i64 0, .int .i64 0, .int .i64 0, .slice none 0 0] 59)
  have g0 := At.new w 59 #[.int .i64 0, .int .i64 0, .int .i64 0, .int .i64 0, .int .i64 0, .int .i64 0, .int .i64 0, .slice none 0 0]
  go_enter Try.func25, Try.ntmps25
  go_wp2_with (fail)
  refine H1.out.mono ?_
  rintro e w1 ⟨A1, c1, rfl, hown1, hch1⟩
  have g1 := g0.keep hch1 (by simp)
  have hc1 := h0.trans hch1 (by simp)
  have hg1 := g1.lt
  clear H1 h0 g0
  by_cases hz : z = 0
  rotate_left
  · have hzb : ((z : Int) != 0) = true := by rw [bne_iff_ne]; omega
    have HEz := Lib.hid (HE.out hz)
    have y0 := g1.cell 0
    have y1 := g1.cell 1
    have y2 := g1.cell 2
    have y3 := g1.cell 3
    have y4 := g1.cell 4
    have y5 := g1.cell 5
    have y6 := g1.cell 6
    have y7 := g1.cell 7
    have f0 := g1.free 0
    have f1 := g1.free 1
    have f2 := g1.free 2
    have f3 := g1.free 3
    have f4 := g1.free 4
    have f5 := g1.free 5
    have f6 := g1.free 6
    have f7 := g1.free 7
    simp only [List.getElem?_toArray, List.getElem?_cons_zero, List.getElem?_cons_succ] at y0 y1 y2 y3 y4 y5 y6 y7
    clear hz HE HN H0 HZ
    go_wp2_with (fail)
    refine ret_wdr2 (g := w.heap.size) (T := 59) rfl Try.results25 rfl rfl (At.set8 g1 (.int .i64 0) (.int .i64 0) (.int .i64 0) (.int .i64 0) (.int .i64 0) (.int .i64 0) (.int .i64 0) (.slice none 0 0)) ?_
    exact DecWPost.no z (HEz.out) (Chg.set8 hc1 (.inr (Nat.le_refl _)) (.int .i64 0) (.int .i64 0) (.int .i64 0) (.int .i64 0) (.int .i64 0) (.int .i64 0) (.int .i64 0) (.slice none 0 0))
  have hzb : ((z : Int) != 0) = false := by rw [hz]; rfl
  obtain ⟨hzn, hzp, hzl, hzm⟩ := HZ.out hz
  have hpl : p.length ≤ 262144 := by omega
  have Hz := Lib.hid hz
  subst hz
  clear HE HZ hzn hzp hzl hzm
  have hcap1 := own_cap hown1
  obtain ⟨S, hS⟩ : ∃ S, Hid ((if p.length = 0 then [] else blk A1) = S) := ⟨_, rfl⟩
  have hS' : Hid (∀ k ∈ S, w.heap.size < k ∧ k < w1.heap.size) := fun k hk => by
    rw [← hS.out] at hk
    split at hk
    · simp at hk
    · rename_i hp0
      obtain ⟨ad, rfl, hb, _⟩ := (Rd.of_own hown1).at_ (by omega)
      have h2 := (hown1.lt k (by simp [blk] at hk; simp [Value.ownBlock, hk])).1
      simp [blk] at hk
      simp at h2
      omega
  have rB : RrG 100 (w1.alloc (.cells #[.slice A1 p.length c1, .bool false] 100)) w1.heap.size S (w1.alloc (.cells #[.slice A1 p.length c1, .bool false] 100)) A1 c1 p false :=
    ⟨At.new w1 100 #[.slice A1 p.length c1, .bool false], (Rd.of_own hown1).alloc _, hcap1, Chg.refl _ _, fun h0 k hk => by rw [← hS.out, if_neg (by omega)]; exact hk, fun hm => by have := hS'.out _ hm; omega, by simp⟩
  have gB := g1.al (.cells #[.slice A1 p.length c1, .bool false] 100)
  have cB' := hc1.alloc (.cells #[.slice A1 p.length c1, .bool false] 100)
  clear g1 hc1 hch1 hown1 hcap1 hS
  obtain ⟨x0, L1, b1, t1⟩ : ∃ x L1 b1, takeNum p false = (x, L1, b1) := ⟨_, _, _, rfl⟩
  obtain ⟨x1, L2, b2, t2⟩ : ∃ x L2 b2, takeNum L1 b1 = (x, L2, b2) := ⟨_, _, _, rfl⟩
  obtain ⟨x2, X, b, t3⟩ : ∃ x L3 b3, takeNum L2 b2 = (x, L3, b3) := ⟨_, _, _, rfl⟩
  have hl1 : L1.length ≤ 262144 := by have := takeNum_len p false; rw [t1] at this; simp only at this; omega
  have hl2 : L2.length ≤ 262144 := by have := takeNum_len L1 b1; rw [t2] at this; simp only at this; omega
  have hlX : X.length ≤ 262144 := by have := takeNum_len L2 b2; rw [t3] at this; simp only at this; omega
  have h0' : Hid (numAt p false 0 = x0) := by unfold Hid; simp only [numAt, numsSt, t1]
  have h1' : Hid (numAt p false 1 = x1) := by unfold Hid; simp only [numAt, numsSt, t1, t2]
  have h2' : Hid (numAt p false 2 = x2) := by unfold Hid; simp only [numAt, numsSt, t1, t2, t3]
  have h3' : Hid (numsSt p false 3 = (X, b)) := by unfold Hid; simp only [numsSt, t1, t2, t3]
  have T1 := Lib.hid t1
  have T2 := Lib.hid t2
  have T3 := Lib.hid t3
  clear t1 t2 t3
  go_wp2_with (fail)
  refine (fnum_to w1.heap.size S _ A1 c1 p false x0 L1 b1 T1.out rB (by omega)).mono ?_
  rintro e w2 ⟨rfl, A2, c2, r2⟩
  have g2 := gB.keep r2.chg (by simp; omega)
  have cc2 := cB'.trans r2.chg (by simp; omega)
  have r2' := r2.here
  clear rB gB cB' r2
  go_wp2_with (fail)
  refine (fnum_to w1.heap.size S _ A2 c2 L1 b1 x1 L2 b2 T2.out r2' (by omega)).mono ?_
  rintro e w3 ⟨rfl, A3, c3, r3⟩
  have g3 := g2.keep r3.chg (by simp; omega)
  have cc3 := cc2.trans r3.chg (by simp; omega)
  have r3' := r3.here
  clear g2 cc2 r2' r3
  go_wp2_with (fail)
  refine (fnum_to w1.heap.size S _ A3 c3 L2 b2 x2 X b T3.out r3' (by omega)).mono ?_
  rintro e w4 ⟨rfl, A4, c4, r4⟩
  have g4 := g3.keep r4.chg (by simp; omega)
  have cc4 := cc3.trans r4.chg (by simp; omega)
  have r4' := r4.here
  have hB4 := r4'.at_.lt
  have d0 := r4'.at_.cell 0
  have d1 := r4'.at_.cell 1
  simp only [List.getElem?_toArray, List.getElem?_cons_zero, List.getElem?_cons_succ] at d0 d1
  clear g3 cc3 r3' r4
  have aN := At.new w4 59 #[.int .i64 x0, .int .i64 x1, .int .i64 x2, .int .i64 0, .int .i64 0, .int .i64 0, .int .i64 0, .slice none 0 0]
  have q5 := (Chg.refl [] w4).alloc (.cells #[.int .i64 x0, .int .i64 x1, .int .i64 x2, .int .i64 0, .int .i64 0, .int .i64 0, .int .i64 0, .slice none 0 0] 59)
  have r5 := r4'.stay q5 (by simp)
  have g5 := g4.keep q5 (by simp)
  have cc5 := cc4.t0 q5
  have e0 := r5.at_.cell 0
  have e1 := r5.at_.cell 1
  simp only [List.getElem?_toArray, List.getElem?_cons_zero, List.getElem?_cons_succ] at e0 e1
  clear r4' g4 cc4 q5
  have y0 := g5.cell 0
  have y1 := g5.cell 1
  have y2 := g5.cell 2
  have y3 := g5.cell 3
  have y4 := g5.cell 4
  have y5 := g5.cell 5
  have y6 := g5.cell 6
  have y7 := g5.cell 7
  have f0 := g5.free 0
  have f1 := g5.free 1
  have f2 := g5.free 2
  have f3 := g5.free 3
  have f4 := g5.free 4
  have f5 := g5.free 5
  have f6 := g5.free 6
  have f7 := g5.free 7
  simp only [List.getElem?_toArray, List.getElem?_cons_zero, List.getElem?_cons_succ] at y0 y1 y2 y3 y4 y5 y6 y7
  by_cases hb : b = true
  · subst hb
    by_cases hm : m = L.length
    · have HT : Hid (decW L = (Wd.z, 3)) := by
        have h1 := H0.out trivial hm
        exact decW_bad (by rw [h1]) (by rw [h1]; exact readW_bad (by rw [h3'.out]))
      clear H0 HN h0' h1' h2' h3' hm
      go_wp2_with (fail)
      refine ret_wdr2 (g := w.heap.size) (T := 59) rfl Try.results25 rfl rfl (At.set8 g5 (.int .i64 0) (.int .i64 0) (.int .i64 0) (.int .i64 0) (.int .i64 0) (.int .i64 0) (.int .i64 0) (.slice none 0 0)) ?_
      exact DecWPost.no 3 (HT.out) (Chg.set8 cc5 (.inr (Nat.le_refl _)) (.int .i64 0) (.int .i64 0) (.int .i64 0) (.int .i64 0) (.int .i64 0) (.int .i64 0) (.int .i64 0) (.slice none 0 0))
    · have HT := Lib.hid (HN.out trivial hm)
      clear H0 HN h0' h1' h2' h3' hm
      go_wp2_with (fail)
      refine ret_wdr2 (g := w.heap.size) (T := 59) rfl Try.results25 rfl rfl (At.set8 g5 (.int .i64 0) (.int .i64 0) (.int .i64 0) (.int .i64 0) (.int .i64 0) (.int .i64 0) (.int .i64 0) (.slice none 0 0)) ?_
      exact DecWPost.no 3 (HT.out) (Chg.set8 cc5 (.inr (Nat.le_refl _)) (.int .i64 0) (.int .i64 0) (.int .i64 0) (.int .i64 0) (.int .i64 0) (.int .i64 0) (.int .i64 0) (.slice none 0 0))
  have hbf : b = false := by simpa using hb
  subst hbf
  clear hb
  by_cases hm : m = L.length
  rotate_left
  · have HT := Lib.hid (HN.out trivial hm)
    have hmb : ((m : Int) != (L.length : Int)) = true := by rw [bne_iff_ne]; omega
    clear H0 HN h0' h1' h2' h3' hm
    go_wp2_with (fail)
    refine ret_wdr2 (g := w.heap.size) (T := 59) rfl Try.results25 rfl rfl (At.set8 g5 (.int .i64 0) (.int .i64 0) (.int .i64 0) (.int .i64 0) (.int .i64 0) (.int .i64 0) (.int .i64 0) (.slice none 0 0)) ?_
    exact DecWPost.no 3 (HT.out) (Chg.set8 cc5 (.inr (Nat.le_refl _)) (.int .i64 0) (.int .i64 0) (.int .i64 0) (.int .i64 0) (.int .i64 0) (.int .i64 0) (.int .i64 0) (.slice none 0 0))
  have hmb : ((m : Int) != (L.length : Int)) = false := by rw [hm]; simp
  have HO := Lib.hid (H0.out trivial hm)
  have HM := Lib.hid hm
  clear H0 HN hm
  have v0 := aN.cell 0
  simp only [List.getElem?_toArray, List.getElem?_cons_zero] at v0
  have hlt4 : w1.heap.size < w4.heap.size := hB4
  by_cases hk1 : x0 = 1
  · have hb1 : ((x0 : Int) == 1) = true := by rw [hk1]; rfl
    have HRW := Lib.hid (readW_1 (h0'.out.trans hk1) h1'.out h2'.out h3'.out)
    subst hk1
    clear h0' h1' h2' h3'
    go_wp2_with (fail)
    clear v0 y0 y1 y2 y3 y4 y5 y6 y7 f0 f1 f2 f3 f4 f5 f6 f7 e0 e1 d0 d1
    have hlt5 := aN.lt
    have hgw : w.heap.size < w4.heap.size := by omega
    refine (refReadList_any _ A4 _ c4 X rfl r5.rd r5.cap (by omega)).mono ?_
    rintro e w8 ⟨A9, c9, lr, rfl, hlr, hown9, hO9, hch8⟩
    have g8 := g5.keep hch8 (by simp)
    have a8 := aN.keep hch8 (by simp)
    have r8 := r5.stay hch8 (by simp)
    have cc8 := cc5.trans hch8 (by simp)
    have hs8 := hch8.size
    simp at hs8
    have own8 := own_up hown9 (show w1.heap.size + 1 ≤ _ by simp; omega)
    have O8 : Hid (∀ x ∈ lr, OwnV w8 (w4.heap.size + 1) x) := fun x hx => own_up (hO9 x hx) (by simp)
    have own8b := own_up hown9 (show w4.heap.size + 1 ≤ _ by simp)
    have hlr64 : lr.length ≤ 64 := by
      have h := congrArg List.length hlr
      simp only [List.length_map] at h
      rw [h]
      cases hod : decL X with
      | none => simp
      | some l => exact (decL_good hod).2.1
    rw [← hlr] at HRW
    obtain ⟨od, hod⟩ : ∃ od, Hid (decL X = od) := ⟨_, rfl⟩
    rw [hod.out] at HRW ⊢
    have q9 : Chg [w4.heap.size] w8 (w8.setCell ⟨w4.heap.size, 7, none⟩ (.slice A9 lr.length c9)) := (Chg.refl _ _).setCell (.inl (by simp)) _
    have q10 : Chg [w1.heap.size] (w8.setCell ⟨w4.heap.size, 7, none⟩ (.slice A9 lr.length c9)) ((w8.setCell ⟨w4.heap.size, 7, none⟩ (.slice A9 lr.length c9)).setCell ⟨w1.heap.size, 0, none⟩ (.slice none 0 0)) := (Chg.refl _ _).setCell (.inl (by simp)) _
    have hS4 : w4.heap.size ∉ S := fun hm => by have := (hS'.out _ hm).2; omega
    have aT : At ((w8.setCell ⟨w4.heap.size, 7, none⟩ (.slice A9 lr.length c9)).setCell ⟨w1.heap.size, 0, none⟩ (.slice none 0 0)) w4.heap.size 59 #[.int .i64 1, .int .i64 (x1 : Int), .int .i64 (x2 : Int), .int .i64 0, .int .i64 0, .int .i64 0, .int .i64 0, .slice A9 lr.length c9] := (show At (w8.setCell ⟨w4.heap.size, 7, none⟩ (.slice A9 lr.length c9)) w4.heap.size _ _ by simpa using a8.set_ 7 (.slice A9 lr.length c9)).keep q10 (by simp; omega)
    have gT : At ((w8.setCell ⟨w4.heap.size, 7, none⟩ (.slice A9 lr.length c9)).setCell ⟨w1.heap.size, 0, none⟩ (.slice none 0 0)) w.heap.size _ _ := (g8.keep q9 (by simp; omega)).keep q10 (by simp; omega)
    have rT0 := r8.stay q9 (by intro k hk; obtain rfl := List.mem_singleton.1 hk; exact ⟨by omega, hS4⟩)
    have rT := (rT0.setOf (n := 0) (A' := none) (c' := 0) (L' := []) rfl (Rd.nil _ _ _) (Nat.le_refl _) (by simp) (by simp)).here
    have hcT : Chg [] w ((w8.setCell ⟨w4.heap.size, 7, none⟩ (.slice A9 lr.length c9)).setCell ⟨w1.heap.size, 0, none⟩ (.slice none 0 0)) := (cc8.trans q9 (by simp; omega)).trans q10 (by simp; omega)
    have oT := own_keep (own_keep own8b q9 (fun k hk hm => by have := (own8b.lt k hk).1; simp at hm; omega)) q10 (fun k hk hm => by have := (own8b.lt k hk).1; simp at hm; omega)
    have OT0 : Hid (∀ x ∈ lr, OwnV ((w8.setCell ⟨w4.heap.size, 7, none⟩ (.slice A9 lr.length c9)).setCell ⟨w1.heap.size, 0, none⟩ (.slice none 0 0)) (w4.heap.size + 1) x) := fun x hx => own_keep (own_keep (O8.out x hx) q9 (fun k hk hm => by have := ((O8.out x hx).lt k hk).1; simp at hm; omega)) q10 (fun k hk hm => by have := ((O8.out x hx).lt k hk).1; simp at hm; omega)
    have oT := own_up oT (show w1.heap.size ≤ w4.heap.size + 1 by omega)
    have OT : Hid (∀ x ∈ lr, OwnV ((w8.setCell ⟨w4.heap.size, 7, none⟩ (.slice A9 lr.length c9)).setCell ⟨w1.heap.size, 0, none⟩ (.slice none 0 0)) w1.heap.size x) := fun x hx => own_up (OT0.out x hx) (by omega)
    have f7 := a8.free 7
    have y7 := a8.cell 7
    have d0 := r8.at_.cell 0
    have df := r8.at_.free 0
    simp only [List.getElem?_toArray, List.getElem?_cons_zero, List.getElem?_cons_succ] at y7 d0
    clear hlr hown9 hO9 hch8 g5 aN r5 cc5 g8 r8 cc8 own8 O8 q9 q10 rT0 OT0 own8b hS4
    cases od with
    | none =>
      have y20 := gT.cell 0
      have y21 := gT.cell 1
      have y22 := gT.cell 2
      have y23 := gT.cell 3
      have y24 := gT.cell 4
      have y25 := gT.cell 5
      have y26 := gT.cell 6
      have y27 := gT.cell 7
      have f20 := gT.free 0
      have f21 := gT.free 1
      have f22 := gT.free 2
      have f23 := gT.free 3
      have f24 := gT.free 4
      have f25 := gT.free 5
      have f26 := gT.free 6
      have f27 := gT.free 7
      simp only [List.getElem?_toArray, List.getElem?_cons_zero, List.getElem?_cons_succ] at y20 y21 y22 y23 y24 y25 y26 y27
      go_wp2_with (fail)
      refine ret_wdr2 (g := w.heap.size) (T := 59) rfl Try.results25 rfl rfl (At.set8 gT (.int .i64 0) (.int .i64 0) (.int .i64 0) (.int .i64 0) (.int .i64 0) (.int .i64 0) (.int .i64 0) (.slice none 0 0)) ?_
      exact DecWPost.no 3 (decW_3 (show (oneF L).2 = 0 by rw [HO.out]) (show readW (oneF L).1 = (_, false) by rw [HO.out]; exact HRW.out) rfl) (Chg.set8 hcT (.inr (Nat.le_refl _)) (.int .i64 0) (.int .i64 0) (.int .i64 0) (.int .i64 0) (.int .i64 0) (.int .i64 0) (.int .i64 0) (.slice none 0 0))
    | some l =>
      go_wp2_with (fail)
      clear f7 y7 d0 df a8
      generalize ((w8.setCell ⟨w4.heap.size, 7, none⟩ (.slice A9 lr.length c9)).setCell ⟨w1.heap.size, 0, none⟩ (.slice none 0 0)) = wT at *
      refine (fwhole_any w1.heap.size S _ wT _ _ [] false rT).mono ?_
      rintro e wq ⟨rfl, rfl⟩
      obtain ⟨wh, hwh⟩ : ∃ wh, Hid ((!false && decide (([] : List UInt8) = [])) = wh) := ⟨_, rfl⟩
      have HRX : Hid (readW p = (⟨1, (x1 : Int), (x2 : Int), 0, 0, 0, 0, lr.map RcV.r⟩, wh)) := by unfold Hid; rw [HRW.out, ← hwh.out]; simp
      rw [hwh.out]
      have y0 := gT.cell 0
      have y1 := gT.cell 1
      have y2 := gT.cell 2
      have y3 := gT.cell 3
      have y4 := gT.cell 4
      have y5 := gT.cell 5
      have y6 := gT.cell 6
      have y7 := gT.cell 7
      have f0 := gT.free 0
      have f1 := gT.free 1
      have f2 := gT.free 2
      have f3 := gT.free 3
      have f4 := gT.free 4
      have f5 := gT.free 5
      have f6 := gT.free 6
      have f7 := gT.free 7
      simp only [List.getElem?_toArray, List.getElem?_cons_zero, List.getElem?_cons_succ] at y0 y1 y2 y3 y4 y5 y6 y7
      cases wh
      · have HT := Lib.hid (decW_3 (show (oneF L).2 = 0 by rw [HO.out]) (show readW (oneF L).1 = (⟨1, (x1 : Int), (x2 : Int), 0, 0, 0, 0, lr.map RcV.r⟩, false) by rw [HO.out]; exact HRX.out) rfl)
        go_wp2_with (fail)
        refine ret_wdr2 (g := w.heap.size) (T := 59) rfl Try.results25 rfl rfl (At.set8 gT (.int .i64 0) (.int .i64 0) (.int .i64 0) (.int .i64 0) (.int .i64 0) (.int .i64 0) (.int .i64 0) (.slice none 0 0)) ?_
        exact DecWPost.no 3 (HT.out) (Chg.set8 hcT (.inr (Nat.le_refl _)) (.int .i64 0) (.int .i64 0) (.int .i64 0) (.int .i64 0) (.int .i64 0) (.int .i64 0) (.int .i64 0) (.slice none 0 0))
      have u0 := aT.cell 0
      have u1 := aT.cell 1
      have u2 := aT.cell 2
      have u3 := aT.cell 3
      have u4 := aT.cell 4
      have u5 := aT.cell 5
      have u6 := aT.cell 6
      have u7 := aT.cell 7
      simp only [List.getElem?_toArray, List.getElem?_cons_zero, List.getElem?_cons_succ] at u0 u1 u2 u3 u4 u5 u6 u7
      go_wp2_with (fail)
      refine (refIsW_any wT 1 (x1 : Int) (x2 : Int) 0 0 0 0 A9 _ c9 lr rfl (Rd.of_own oT) (by omega)).mono ?_
      rintro e w12 ⟨rfl, hch12⟩
      have g12 := gT.keep hch12 (by simp)
      have a12 := aT.keep hch12 (by simp)
      have c12 := hcT.trans hch12 (by simp)
      have o12 := own_k0 oT hch12
      have O12 : Hid (∀ x ∈ (lr : List RcV), OwnV w12 w1.heap.size x) := fun x hx => own_k0 (OT.out x hx) hch12
      obtain ⟨s, hs⟩ : ∃ s, Hid (isW ⟨1, (x1 : Int), (x2 : Int), 0, 0, 0, 0, lr.map RcV.r⟩ = s) := ⟨_, rfl⟩
      rw [hs.out]
      clear gT aT hcT oT OT y0 y1 y2 y3 y4 y5 y6 y7 f0 f1 f2 f3 f4 f5 f6 f7 u0 u1 u2 u3 u4 u5 u6 u7
      have y0 := g12.cell 0
      have y1 := g12.cell 1
      have y2 := g12.cell 2
      have y3 := g12.cell 3
      have y4 := g12.cell 4
      have y5 := g12.cell 5
      have y6 := g12.cell 6
      have y7 := g12.cell 7
      have f0 := g12.free 0
      have f1 := g12.free 1
      have f2 := g12.free 2
      have f3 := g12.free 3
      have f4 := g12.free 4
      have f5 := g12.free 5
      have f6 := g12.free 6
      have f7 := g12.free 7
      simp only [List.getElem?_toArray, List.getElem?_cons_zero, List.getElem?_cons_succ] at y0 y1 y2 y3 y4 y5 y6 y7
      cases s
      · have HT := Lib.hid (decW_3 (show (oneF L).2 = 0 by rw [HO.out]) (show readW (oneF L).1 = (⟨1, (x1 : Int), (x2 : Int), 0, 0, 0, 0, lr.map RcV.r⟩, true) by rw [HO.out]; exact HRX.out) (by rw [hs.out]; rfl))
        go_wp2_with (fail)
        refine ret_wdr2 (g := w.heap.size) (T := 59) rfl Try.results25 rfl rfl (At.set8 g12 (.int .i64 0) (.int .i64 0) (.int .i64 0) (.int .i64 0) (.int .i64 0) (.int .i64 0) (.int .i64 0) (.slice none 0 0)) ?_
        exact DecWPost.no 3 (HT.out) (Chg.set8 c12 (.inr (Nat.le_refl _)) (.int .i64 0) (.int .i64 0) (.int .i64 0) (.int .i64 0) (.int .i64 0) (.int .i64 0) (.int .i64 0) (.slice none 0 0))
      · have HD0 := Lib.hid (decW_0 (show (oneF L).2 = 0 by rw [HO.out]) (show readW (oneF L).1 = (⟨1, (x1 : Int), (x2 : Int), 0, 0, 0, 0, lr.map RcV.r⟩, true) by rw [HO.out]; exact HRX.out) hs.out).1
        have u0 := a12.cell 0
        have u1 := a12.cell 1
        have u2 := a12.cell 2
        have u3 := a12.cell 3
        have u4 := a12.cell 4
        have u5 := a12.cell 5
        have u6 := a12.cell 6
        have u7 := a12.cell 7
        simp only [List.getElem?_toArray, List.getElem?_cons_zero, List.getElem?_cons_succ] at u0 u1 u2 u3 u4 u5 u6 u7
        go_wp2_with (fail)
        refine ret_wdr2 (g := w.heap.size) (T := 59) rfl Try.results25 rfl rfl (At.set8 g12 (.int .i64 1) (.int .i64 (x1 : Int)) (.int .i64 (x2 : Int)) (.int .i64 0) (.int .i64 0) (.int .i64 0) (.int .i64 0) (.slice A9 lr.length c9)) ?_
        have qq : Chg [w.heap.size] w12 _ := Chg.set8 (g := w.heap.size) (Chg.refl [w.heap.size] w12) (.inl (by simp)) (.int .i64 1) (.int .i64 (x1 : Int)) (.int .i64 (x2 : Int)) (.int .i64 0) (.int .i64 0) (.int .i64 0) (.int .i64 0) (.slice A9 lr.length c9)
        refine DecWPost.yes ⟨1, (x1 : Int), (x2 : Int), 0, 0, 0, 0, A9, lr, c9⟩ rfl HD0.out ?_ ?_ (Chg.set8 c12 (.inr (Nat.le_refl _)) (.int .i64 1) (.int .i64 (x1 : Int)) (.int .i64 (x2 : Int)) (.int .i64 0) (.int .i64 0) (.int .i64 0) (.int .i64 0) (.slice A9 lr.length c9))
        · exact own_up (own_keep o12 qq (fun k hk hm => by have := (o12.lt k hk).1; simp at hm; omega)) (by omega)
        · intro x hx
          exact own_up (own_keep (O12.out x hx) qq (fun k hk hm => by have := ((O12.out x hx).lt k hk).1; simp at hm; omega)) (by omega)
  by_cases hk3 : x0 = 3
  · have hb1 : ((x0 : Int) == 1) = false := by rw [hk3]; rfl
    have hb3 : ((x0 : Int) == 3) = true := by rw [hk3]; rfl
    have HRW := Lib.hid (readW_3 (h0'.out.trans hk3) h1'.out h2'.out h3'.out)
    subst hk3
    clear h0' h1' h2' h3' hk1
    obtain ⟨n0, M1, p1, s1⟩ : ∃ x L3 b3, takeNum X false = (x, L3, b3) := ⟨_, _, _, rfl⟩
    obtain ⟨n1, M2, p2, s2⟩ : ∃ x L3 b3, takeNum M1 p1 = (x, L3, b3) := ⟨_, _, _, rfl⟩
    obtain ⟨n2, M3, p3, s3⟩ : ∃ x L4 b4, takeNum M2 p2 = (x, L4, b4) := ⟨_, _, _, rfl⟩
    obtain ⟨n3, M4, p4, s4⟩ : ∃ x L5 b5, takeNum M3 p3 = (x, L5, b5) := ⟨_, _, _, rfl⟩
    have hm1 : M1.length ≤ 262144 := by have := takeNum_len X false; rw [s1] at this; simp only at this; omega
    have hm2 : M2.length ≤ 262144 := by have := takeNum_len M1 p1; rw [s2] at this; simp only at this; omega
    have hm3 : M3.length ≤ 262144 := by have := takeNum_len M2 p2; rw [s3] at this; simp only at this; omega
    simp only [numAt, numsSt, s1, s2, s3, s4] at HRW
    have U1 := Lib.hid s1
    have U2 := Lib.hid s2
    have U3 := Lib.hid s3
    have U4 := Lib.hid s4
    have hlt5 := aN.lt
    have hgw : w.heap.size < w4.heap.size := by omega
    have hS4 : Hid (w4.heap.size ∉ S) := fun hm => by have := (hS'.out _ hm).2; omega
    clear s1 s2 s3 s4
    go_wp2_with (fail)
    refine (fnum_to w1.heap.size S _ A4 c4 X false n0 M1 p1 U1.out r5 (by omega)).mono ?_
    rintro e w6 ⟨rfl, A6, c6, r6⟩
    have g6 := g5.keep r6.chg (by simp; omega)
    have a6 := aN.keep r6.chg (by simp; omega)
    have cc6 := cc5.trans r6.chg (by simp; omega)
    have r6' := r6.here
    clear r6
    clear v0 y0 y1 y2 y3 y4 y5 y6 y7 f0 f1 f2 f3 f4 f5 f6 f7 e0 e1 d0 d1 r5 g5 aN cc5
    go_wp2_with (fail)
    refine (fnum_to w1.heap.size S _ A6 c6 M1 p1 n1 M2 p2 U2.out r6' (by omega)).mono ?_
    rintro e w7 ⟨rfl, A7, c7, r7⟩
    have g7 := g6.keep r7.chg (by simp; omega)
    have a7 := a6.keep r7.chg (by simp; omega)
    have cc7 := cc6.trans r7.chg (by simp; omega)
    have r7' := r7.here
    clear r7
    clear g6 a6 cc6 r6'
    have k3 := a7.cell 3
    have k4 := a7.cell 4
    have j3 := a7.free 3
    have j4 := a7.free 4
    simp only [List.getElem?_toArray, List.getElem?_cons_zero, List.getElem?_cons_succ] at k3 k4
    have q7 : Chg [w4.heap.size] w7 ((w7.setCell ⟨w4.heap.size, 3, none⟩ (.int .i64 (n0 : Int))).setCell ⟨w4.heap.size, 4, none⟩ (.int .i64 (n1 : Int))) := ((Chg.refl _ _).setCell (.inl (by simp)) _).setCell (.inl (by simp)) _
    have a8 : At ((w7.setCell ⟨w4.heap.size, 3, none⟩ (.int .i64 (n0 : Int))).setCell ⟨w4.heap.size, 4, none⟩ (.int .i64 (n1 : Int))) w4.heap.size 59 #[.int .i64 3, .int .i64 (x1 : Int), .int .i64 (x2 : Int), .int .i64 (n0 : Int), .int .i64 (n1 : Int), .int .i64 0, .int .i64 0, .slice none 0 0] := by simpa using (a7.set_ 3 (.int .i64 (n0 : Int))).set_ 4 (.int .i64 (n1 : Int))
    have g8 := g7.keep q7 (by simp; omega)
    have r8' := (r7'.stay q7 (by intro k hk; obtain rfl := List.mem_singleton.1 hk; exact ⟨by omega, hS4.out⟩)).here
    have cc8 := cc7.trans q7 (by simp; omega)
    clear g7 a7 r7' cc7 q7
    go_wp2_with (fail)
    clear k3 k4 j3 j4
    generalize ((w7.setCell ⟨w4.heap.size, 3, none⟩ (.int .i64 (n0 : Int))).setCell ⟨w4.heap.size, 4, none⟩ (.int .i64 (n1 : Int))) = w8 at *
    refine (fnum_to w1.heap.size S _ A7 c7 M2 p2 n2 M3 p3 U3.out r8' (by omega)).mono ?_
    rintro e w9 ⟨rfl, A9, c9, r9⟩
    have g9 := g8.keep r9.chg (by simp; omega)
    have a9 := a8.keep r9.chg (by simp; omega)
    have cc9 := cc8.trans r9.chg (by simp; omega)
    have r9' := r9.here
    clear r9
    go_wp2_with (fail)
    refine (fnum_to w1.heap.size S _ A9 c9 M3 p3 n3 M4 p4 U4.out r9' (by omega)).mono ?_
    rintro e w10 ⟨rfl, A10, c10, r10⟩
    have g10 := g9.keep r10.chg (by simp; omega)
    have a10 := a9.keep r10.chg (by simp; omega)
    have cc10 := cc9.trans r10.chg (by simp; omega)
    have r10' := r10.here
    clear r10
    clear g9 a9 cc9 r9' g8 a8 cc8 r8'
    have k5 := a10.cell 5
    have k6 := a10.cell 6
    have j5 := a10.free 5
    have j6 := a10.free 6
    simp only [List.getElem?_toArray, List.getElem?_cons_zero, List.getElem?_cons_succ] at k5 k6
    have q10 : Chg [w4.heap.size] w10 ((w10.setCell ⟨w4.heap.size, 5, none⟩ (.int .i64 (n2 : Int))).setCell ⟨w4.heap.size, 6, none⟩ (.int .i64 (n3 : Int))) := ((Chg.refl _ _).setCell (.inl (by simp)) _).setCell (.inl (by simp)) _
    have a11 : At ((w10.setCell ⟨w4.heap.size, 5, none⟩ (.int .i64 (n2 : Int))).setCell ⟨w4.heap.size, 6, none⟩ (.int .i64 (n3 : Int))) w4.heap.size 59 #[.int .i64 3, .int .i64 (x1 : Int), .int .i64 (x2 : Int), .int .i64 (n0 : Int), .int .i64 (n1 : Int), .int .i64 (n2 : Int), .int .i64 (n3 : Int), .slice none 0 0] := by simpa using (a10.set_ 5 (.int .i64 (n2 : Int))).set_ 6 (.int .i64 (n3 : Int))
    have g11 := g10.keep q10 (by simp; omega)
    have r11' := (r10'.stay q10 (by intro k hk; obtain rfl := List.mem_singleton.1 hk; exact ⟨by omega, hS4.out⟩)).here
    have cc11 := cc10.trans q10 (by simp; omega)
    clear g10 a10 r10' cc10 q10
    go_wp2_with (fail)
    clear k5 k6 j5 j6
    generalize ((w10.setCell ⟨w4.heap.size, 5, none⟩ (.int .i64 (n2 : Int))).setCell ⟨w4.heap.size, 6, none⟩ (.int .i64 (n3 : Int))) = w11 at *
    have rT := r11'
    have gT := g11
    have aT := a11
    have hcT := cc11
    have oT := own_none w11 w1.heap.size 51 9
    have OT : Hid (∀ x ∈ ([] : List RcV), OwnV w11 w1.heap.size x) := by simp [Hid]
    clear r11' g11 a11 cc11
    refine (fwhole_any w1.heap.size S _ w11 _ _ M4 p4 rT).mono ?_
    rintro e wq ⟨rfl, rfl⟩
    obtain ⟨wh, hwh⟩ : ∃ wh, Hid ((!p4 && decide ((M4 : List UInt8) = [])) = wh) := ⟨_, rfl⟩
    have HRX : Hid (readW p = (⟨3, (x1 : Int), (x2 : Int), (n0 : Int), (n1 : Int), (n2 : Int), (n3 : Int), []⟩, wh)) := by unfold Hid; rw [HRW.out, ← hwh.out]
    rw [hwh.out]
    have y0 := gT.cell 0
    have y1 := gT.cell 1
    have y2 := gT.cell 2
    have y3 := gT.cell 3
    have y4 := gT.cell 4
    have y5 := gT.cell 5
    have y6 := gT.cell 6
    have y7 := gT.cell 7
    have f0 := gT.free 0
    have f1 := gT.free 1
    have f2 := gT.free 2
    have f3 := gT.free 3
    have f4 := gT.free 4
    have f5 := gT.free 5
    have f6 := gT.free 6
    have f7 := gT.free 7
    simp only [List.getElem?_toArray, List.getElem?_cons_zero, List.getElem?_cons_succ] at y0 y1 y2 y3 y4 y5 y6 y7
    cases wh
    · have HT := Lib.hid (decW_3 (show (oneF L).2 = 0 by rw [HO.out]) (show readW (oneF L).1 = (⟨3, (x1 : Int), (x2 : Int), (n0 : Int), (n1 : Int), (n2 : Int), (n3 : Int), []⟩, false) by rw [HO.out]; exact HRX.out) rfl)
      go_wp2_with (fail)
      refine ret_wdr2 (g := w.heap.size) (T := 59) rfl Try.results25 rfl rfl (At.set8 gT (.int .i64 0) (.int .i64 0) (.int .i64 0) (.int .i64 0) (.int .i64 0) (.int .i64 0) (.int .i64 0) (.slice none 0 0)) ?_
      exact DecWPost.no 3 (HT.out) (Chg.set8 hcT (.inr (Nat.le_refl _)) (.int .i64 0) (.int .i64 0) (.int .i64 0) (.int .i64 0) (.int .i64 0) (.int .i64 0) (.int .i64 0) (.slice none 0 0))
    have u0 := aT.cell 0
    have u1 := aT.cell 1
    have u2 := aT.cell 2
    have u3 := aT.cell 3
    have u4 := aT.cell 4
    have u5 := aT.cell 5
    have u6 := aT.cell 6
    have u7 := aT.cell 7
    simp only [List.getElem?_toArray, List.getElem?_cons_zero, List.getElem?_cons_succ] at u0 u1 u2 u3 u4 u5 u6 u7
    go_wp2_with (fail)
    have HI0 := Lib.hid (refIsW_any w11 3 (x1 : Int) (x2 : Int) (n0 : Int) (n1 : Int) (n2 : Int) (n3 : Int) none 0 0 [] rfl (Rd.nil _ _ _) (by simp))
    rw [List.map_nil] at HI0
    refine HI0.out.mono ?_
    clear HI0
    rintro e w12 ⟨rfl, hch12⟩
    have g12 := gT.keep hch12 (by simp)
    have a12 := aT.keep hch12 (by simp)
    have c12 := hcT.trans hch12 (by simp)
    have o12 := own_k0 oT hch12
    have O12 : Hid (∀ x ∈ ([] : List RcV), OwnV w12 w1.heap.size x) := fun x hx => own_k0 (OT.out x hx) hch12
    obtain ⟨s, hs⟩ : ∃ s, Hid (isW ⟨3, (x1 : Int), (x2 : Int), (n0 : Int), (n1 : Int), (n2 : Int), (n3 : Int), []⟩ = s) := ⟨_, rfl⟩
    rw [hs.out]
    clear gT aT hcT oT OT y0 y1 y2 y3 y4 y5 y6 y7 f0 f1 f2 f3 f4 f5 f6 f7 u0 u1 u2 u3 u4 u5 u6 u7
    have y0 := g12.cell 0
    have y1 := g12.cell 1
    have y2 := g12.cell 2
    have y3 := g12.cell 3
    have y4 := g12.cell 4
    have y5 := g12.cell 5
    have y6 := g12.cell 6
    have y7 := g12.cell 7
    have f0 := g12.free 0
    have f1 := g12.free 1
    have f2 := g12.free 2
    have f3 := g12.free 3
    have f4 := g12.free 4
    have f5 := g12.free 5
    have f6 := g12.free 6
    have f7 := g12.free 7
    simp only [List.getElem?_toArray, List.getElem?_cons_zero, List.getElem?_cons_succ] at y0 y1 y2 y3 y4 y5 y6 y7
    cases s
    · have HT := Lib.hid (decW_3 (show (oneF L).2 = 0 by rw [HO.out]) (show readW (oneF L).1 = (⟨3, (x1 : Int), (x2 : Int), (n0 : Int), (n1 : Int), (n2 : Int), (n3 : Int), []⟩, true) by rw [HO.out]; exact HRX.out) (by rw [hs.out]; rfl))
      go_wp2_with (fail)
      refine ret_wdr2 (g := w.heap.size) (T := 59) rfl Try.results25 rfl rfl (At.set8 g12 (.int .i64 0) (.int .i64 0) (.int .i64 0) (.int .i64 0) (.int .i64 0) (.int .i64 0) (.int .i64 0) (.slice none 0 0)) ?_
      exact DecWPost.no 3 (HT.out) (Chg.set8 c12 (.inr (Nat.le_refl _)) (.int .i64 0) (.int .i64 0) (.int .i64 0) (.int .i64 0) (.int .i64 0) (.int .i64 0) (.int .i64 0) (.slice none 0 0))
    · have HD0 := Lib.hid (decW_0 (show (oneF L).2 = 0 by rw [HO.out]) (show readW (oneF L).1 = (⟨3, (x1 : Int), (x2 : Int), (n0 : Int), (n1 : Int), (n2 : Int), (n3 : Int), []⟩, true) by rw [HO.out]; exact HRX.out) hs.out).1
      have u0 := a12.cell 0
      have u1 := a12.cell 1
      have u2 := a12.cell 2
      have u3 := a12.cell 3
      have u4 := a12.cell 4
      have u5 := a12.cell 5
      have u6 := a12.cell 6
      have u7 := a12.cell 7
      simp only [List.getElem?_toArray, List.getElem?_cons_zero, List.getElem?_cons_succ] at u0 u1 u2 u3 u4 u5 u6 u7
      go_wp2_with (fail)
      refine ret_wdr2 (g := w.heap.size) (T := 59) rfl Try.results25 rfl rfl (At.set8 g12 (.int .i64 3) (.int .i64 (x1 : Int)) (.int .i64 (x2 : Int)) (.int .i64 (n0 : Int)) (.int .i64 (n1 : Int)) (.int .i64 (n2 : Int)) (.int .i64 (n3 : Int)) (.slice none 0 0)) ?_
      have qq : Chg [w.heap.size] w12 _ := Chg.set8 (g := w.heap.size) (Chg.refl [w.heap.size] w12) (.inl (by simp)) (.int .i64 3) (.int .i64 (x1 : Int)) (.int .i64 (x2 : Int)) (.int .i64 (n0 : Int)) (.int .i64 (n1 : Int)) (.int .i64 (n2 : Int)) (.int .i64 (n3 : Int)) (.slice none 0 0)
      refine DecWPost.yes ⟨3, (x1 : Int), (x2 : Int), (n0 : Int), (n1 : Int), (n2 : Int), (n3 : Int), none, [], 0⟩ rfl HD0.out ?_ ?_ (Chg.set8 c12 (.inr (Nat.le_refl _)) (.int .i64 3) (.int .i64 (x1 : Int)) (.int .i64 (x2 : Int)) (.int .i64 (n0 : Int)) (.int .i64 (n1 : Int)) (.int .i64 (n2 : Int)) (.int .i64 (n3 : Int)) (.slice none 0 0))
      · exact own_up (own_keep o12 qq (fun k hk hm => by have := (o12.lt k hk).1; simp at hm; omega)) (by omega)
      · intro x hx
        exact own_up (own_keep (O12.out x hx) qq (fun k hk hm => by have := ((O12.out x hx).lt k hk).1; simp at hm; omega)) (by omega)
  · have hb1 : ((x0 : Int) == 1) = false := by rw [beq_eq_false_iff_ne]; omega
    have hb3 : ((x0 : Int) == 3) = false := by rw [beq_eq_false_iff_ne]; omega
    have HRW := Lib.hid (readW_2 h0'.out h1'.out h2'.out h3'.out hk1 hk3)
    have rT := r5
    have gT := g5
    have aT := aN
    have hcT := cc5
    have oT := own_none (w4.alloc (.cells #[.int .i64 x0, .int .i64 x1, .int .i64 x2, .int .i64 0, .int .i64 0, .int .i64 0, .int .i64 0, .slice none 0 0] 59)) w1.heap.size 51 9
    have OT : Hid (∀ x ∈ ([] : List RcV), OwnV (w4.alloc (.cells #[.int .i64 x0, .int .i64 x1, .int .i64 x2, .int .i64 0, .int .i64 0, .int .i64 0, .int .i64 0, .slice none 0 0] 59)) w1.heap.size x) := by simp [Hid]
    clear h0' h1' h2' h3' hk1 hk3
    go_wp2_with (fail)
    clear v0 y0 y1 y2 y3 y4 y5 y6 y7 f0 f1 f2 f3 f4 f5 f6 f7 e0 e1 d0 d1 r5 g5 aN cc5
    generalize w4.alloc (.cells #[.int .i64 x0, .int .i64 x1, .int .i64 x2, .int .i64 0, .int .i64 0, .int .i64 0, .int .i64 0, .slice none 0 0] 59) = w5 at *
    refine (fwhole_any w1.heap.size S _ w5 _ _ X false rT).mono ?_
    rintro e wq ⟨rfl, rfl⟩
    obtain ⟨wh, hwh⟩ : ∃ wh, Hid ((!false && decide ((X : List UInt8) = [])) = wh) := ⟨_, rfl⟩
    have HRX : Hid (readW p = (⟨(x0 : Int), (x1 : Int), (x2 : Int), 0, 0, 0, 0, []⟩, wh)) := by unfold Hid; rw [HRW.out, ← hwh.out]
    rw [hwh.out]
    have y0 := gT.cell 0
    have y1 := gT.cell 1
    have y2 := gT.cell 2
    have y3 := gT.cell 3
    have y4 := gT.cell 4
    have y5 := gT.cell 5
    have y6 := gT.cell 6
    have y7 := gT.cell 7
    have f0 := gT.free 0
    have f1 := gT.free 1
    have f2 := gT.free 2
    have f3 := gT.free 3
    have f4 := gT.free 4
    have f5 := gT.free 5
    have f6 := gT.free 6
    have f7 := gT.free 7
    simp only [List.getElem?_toArray, List.getElem?_cons_zero, List.getElem?_cons_succ] at y0 y1 y2 y3 y4 y5 y6 y7
    cases wh
    · have HT := Lib.hid (decW_3 (show (oneF L).2 = 0 by rw [HO.out]) (show readW (oneF L).1 = (⟨(x0 : Int), (x1 : Int), (x2 : Int), 0, 0, 0, 0, []⟩, false) by rw [HO.out]; exact HRX.out) rfl)
      go_wp2_with (fail)
      refine ret_wdr2 (g := w.heap.size) (T := 59) rfl Try.results25 rfl rfl (At.set8 gT (.int .i64 0) (.int .i64 0) (.int .i64 0) (.int .i64 0) (.int .i64 0) (.int .i64 0) (.int .i64 0) (.slice none 0 0)) ?_
      exact DecWPost.no 3 (HT.out) (Chg.set8 hcT (.inr (Nat.le_refl _)) (.int .i64 0) (.int .i64 0) (.int .i64 0) (.int .i64 0) (.int .i64 0) (.int .i64 0) (.int .i64 0) (.slice none 0 0))
    have u0 := aT.cell 0
    have u1 := aT.cell 1
    have u2 := aT.cell 2
    have u3 := aT.cell 3
    have u4 := aT.cell 4
    have u5 := aT.cell 5
    have u6 := aT.cell 6
    have u7 := aT.cell 7
    simp only [List.getElem?_toArray, List.getElem?_cons_zero, List.getElem?_cons_succ] at u0 u1 u2 u3 u4 u5 u6 u7
    go_wp2_with (fail)
    have HI0 := Lib.hid (refIsW_any w5 (x0 : Int) (x1 : Int) (x2 : Int) 0 0 0 0 none 0 0 [] rfl (Rd.nil _ _ _) (by simp))
    rw [List.map_nil] at HI0
    refine HI0.out.mono ?_
    clear HI0
    rintro e w12 ⟨rfl, hch12⟩
    have g12 := gT.keep hch12 (by simp)
    have a12 := aT.keep hch12 (by simp)
    have c12 := hcT.trans hch12 (by simp)
    have o12 := own_k0 oT hch12
    have O12 : Hid (∀ x ∈ ([] : List RcV), OwnV w12 w1.heap.size x) := fun x hx => own_k0 (OT.out x hx) hch12
    obtain ⟨s, hs⟩ : ∃ s, Hid (isW ⟨(x0 : Int), (x1 : Int), (x2 : Int), 0, 0, 0, 0, []⟩ = s) := ⟨_, rfl⟩
    rw [hs.out]
    clear gT aT hcT oT OT y0 y1 y2 y3 y4 y5 y6 y7 f0 f1 f2 f3 f4 f5 f6 f7 u0 u1 u2 u3 u4 u5 u6 u7
    have y0 := g12.cell 0
    have y1 := g12.cell 1
    have y2 := g12.cell 2
    have y3 := g12.cell 3
    have y4 := g12.cell 4
    have y5 := g12.cell 5
    have y6 := g12.cell 6
    have y7 := g12.cell 7
    have f0 := g12.free 0
    have f1 := g12.free 1
    have f2 := g12.free 2
    have f3 := g12.free 3
    have f4 := g12.free 4
    have f5 := g12.free 5
    have f6 := g12.free 6
    have f7 := g12.free 7
    simp only [List.getElem?_toArray, List.getElem?_cons_zero, List.getElem?_cons_succ] at y0 y1 y2 y3 y4 y5 y6 y7
    cases s
    · have HT := Lib.hid (decW_3 (show (oneF L).2 = 0 by rw [HO.out]) (show readW (oneF L).1 = (⟨(x0 : Int), (x1 : Int), (x2 : Int), 0, 0, 0, 0, []⟩, true) by rw [HO.out]; exact HRX.out) (by rw [hs.out]; rfl))
      go_wp2_with (fail)
      refine ret_wdr2 (g := w.heap.size) (T := 59) rfl Try.results25 rfl rfl (At.set8 g12 (.int .i64 0) (.int .i64 0) (.int .i64 0) (.int .i64 0) (.int .i64 0) (.int .i64 0) (.int .i64 0) (.slice none 0 0)) ?_
      exact DecWPost.no 3 (HT.out) (Chg.set8 c12 (.inr (Nat.le_refl _)) (.int .i64 0) (.int .i64 0) (.int .i64 0) (.int .i64 0) (.int .i64 0) (.int .i64 0) (.int .i64 0) (.slice none 0 0))
    · have HD0 := Lib.hid (decW_0 (show (oneF L).2 = 0 by rw [HO.out]) (show readW (oneF L).1 = (⟨(x0 : Int), (x1 : Int), (x2 : Int), 0, 0, 0, 0, []⟩, true) by rw [HO.out]; exact HRX.out) hs.out).1
      have u0 := a12.cell 0
      have u1 := a12.cell 1
      have u2 := a12.cell 2
      have u3 := a12.cell 3
      have u4 := a12.cell 4
      have u5 := a12.cell 5
      have u6 := a12.cell 6
      have u7 := a12.cell 7
      simp only [List.getElem?_toArray, List.getElem?_cons_zero, List.getElem?_cons_succ] at u0 u1 u2 u3 u4 u5 u6 u7
      go_wp2_with (fail)
      refine ret_wdr2 (g := w.heap.size) (T := 59) rfl Try.results25 rfl rfl (At.set8 g12 (.int .i64 (x0 : Int)) (.int .i64 (x1 : Int)) (.int .i64 (x2 : Int)) (.int .i64 0) (.int .i64 0) (.int .i64 0) (.int .i64 0) (.slice none 0 0)) ?_
      have qq : Chg [w.heap.size] w12 _ := Chg.set8 (g := w.heap.size) (Chg.refl [w.heap.size] w12) (.inl (by simp)) (.int .i64 (x0 : Int)) (.int .i64 (x1 : Int)) (.int .i64 (x2 : Int)) (.int .i64 0) (.int .i64 0) (.int .i64 0) (.int .i64 0) (.slice none 0 0)
      refine DecWPost.yes ⟨(x0 : Int), (x1 : Int), (x2 : Int), 0, 0, 0, 0, none, [], 0⟩ rfl HD0.out ?_ ?_ (Chg.set8 c12 (.inr (Nat.le_refl _)) (.int .i64 (x0 : Int)) (.int .i64 (x1 : Int)) (.int .i64 (x2 : Int)) (.int .i64 0) (.int .i64 0) (.int .i64 0) (.int .i64 0) (.slice none 0 0))
      · exact own_up (own_keep o12 qq (fun k hk hm => by have := (o12.lt k hk).1; simp at hm; omega)) (by omega)
      · intro x hx
        exact own_up (own_keep (O12.out x hx) qq (fun k hk hm => by have := ((O12.out x hx).lt k hk).1; simp at hm; omega)) (by omega)
end Go.Proofs.Ytdfkednggjelcaa
