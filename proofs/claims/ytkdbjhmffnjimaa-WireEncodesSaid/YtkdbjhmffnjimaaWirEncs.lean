
/-
  WireEncodes: the walk of the law.
-/
import Derived.Test.YtkdbjhmffnjimaaWirA2
import Derived.Test.YtkdbjhmffnjimaaWirF
import Derived.Test.YtkdbjhmffnjimaaSameL
import Derived.OpenShut
namespace Go.Proofs.Ytkdbjhmffnjimaa
open Go.RowKit
set_option linter.unusedVariables false

theorem same_tt (w : World) (A B : Option Addr) (n m c d : Nat) (xs ys : List UInt8) (s : Bool) (hs : decide (xs = ys) = s) (hn : xs.length = n) (hm : ys.length = m) (hx : Rd w 1 A xs.length (cB xs)) (hy : Rd w 1 B ys.length (cB ys)) (hl : xs.length ≤ 140737488355328) :
    Calls Try.prog 12 #[.slice A n c, .slice B m d] w fun e w' => e = .returned (.bool s) ∧ Chg [] w w' := by
  subst hs
  exact same_any w A B n m c d xs ys hn hm hx hy hl
theorem encW_back {x : Wd} : (encW x).1.length ≤ 80000 ∧ ((encW x).2 = 0 → decW (encW x).1 = (x, 0)) := by
  cases hs : isW x
  · rw [encW_no hs]; simp
  · rw [encW_yes hs]
    have h1 := bodyW_len hs
    have h2 := encF_len (bodyW x)
    exact ⟨by simp only; omega, fun _ => decW_enc hs⟩

set_option maxRecDepth 100000 in
set_option maxHeartbeats 6400000 in
theorem wireEncodes_law (w : World) (x : WdV) (hx : x.In w) :
    Calls Try.prog 3 #[.agg x.cells.toArray] w fun e w' => e = .returned (.bool true) ∧ Chg [] w w' := by
  obtain ⟨i1, hi1, hy0, hy1, hy2⟩ := info_parts info_rec
  obtain ⟨kd, o, q, sm, sc, fm, fc, A, ls, c⟩ := x
  obtain ⟨rd, cap, capm, hlen, hrs, _⟩ := hx
  simp only at rd cap capm hlen hrs
  have RD : Hid (Rd w 9 A ls.length (cRc ls)) := rd
  have RS : Hid (∀ x ∈ ls, Rd w 1 x.A x.r.val.length (cB x.r.val)) := fun x hx => (hrs x hx).rd
  have HB : Hid (∀ x ∈ ls, x.r.key.length ≤ 140737488351232 ∧ x.r.val.length ≤ 140737488351232) := fun x hx => ⟨(hrs x hx).kl, (hrs x hx).vl⟩
  have hls : ls.length ≤ 140737488351232 := by omega
  clear rd hrs cap capm hlen
  show Calls _ _ #[.agg #[.int .i64 kd, .int .i64 o, .int .i64 q, .int .i64 sm, .int .i64 sc, .int .i64 fm, .int .i64 fc, .slice A ls.length c]] w _
  have h0 := Chg.alloc (.refl [] w) (.cells #[.int .i64 kd, .int .i64 o, .int .i64 q, .int .i64 sm, .int .i64 sc, .int .i64 fm, .int .i64 fc, .slice A ls.length c] 26)
  have a0 := At.new w 26 #[.int .i64 kd, .int .i64 o, .int .i64 q, .int .i64 sm, .int .i64 sc, .int .i64 fm, .int .i64 fc, .slice A ls.length c]
  go_enter Try.func3, Try.ntmps3
  go_wp2_with (fail)
  refine (heavyW_any _ kd o q sm sc fm fc A _ c ls rfl (RD.out.alloc _) hls HB.out).mono ?_
  rintro e w1 ⟨hv1, rfl, hlight, hch1⟩
  have a1 := a0.keep hch1 (by simp)
  have c1 := h0.trans hch1 (by simp)
  clear a0 h0 hch1
  cases hv1
  rotate_left
  · go_wp2_with (fail)
    go_ret
    exact ⟨rfl, c1⟩
  have hl4 := hlight rfl
  have hls2 : ls.length ≤ 400 := by omega
  clear hlight hl4
  have y0 := a1.cell 0
  have y1 := a1.cell 1
  have y2 := a1.cell 2
  have y3 := a1.cell 3
  have y4 := a1.cell 4
  have y5 := a1.cell 5
  have y6 := a1.cell 6
  have y7 := a1.cell 7
  simp only [List.getElem?_toArray, List.getElem?_cons_zero, List.getElem?_cons_succ] at y0 y1 y2 y3 y4 y5 y6 y7
  have ax := At.new w1 26 #[.int .i64 kd, .int .i64 o, .int .i64 q, .int .i64 sm, .int .i64 sc, .int .i64 fm, .int .i64 fc, .slice A ls.length c]
  have q1 := (Chg.refl [] w1).alloc (.cells #[.int .i64 kd, .int .i64 o, .int .i64 q, .int .i64 sm, .int .i64 sc, .int .i64 fm, .int .i64 fc, .slice A ls.length c] 26)
  have aw := a1.al (.cells #[.int .i64 kd, .int .i64 o, .int .i64 q, .int .i64 sm, .int .i64 sc, .int .i64 fm, .int .i64 fc, .slice A ls.length c] 26)
  have cx := c1.t0 q1
  have hg1 := a1.lt
  have hg2 := c1.size
  have r1 := RD.out.keep0 cx
  have hsz : (w1.alloc (.cells #[.int .i64 kd, .int .i64 o, .int .i64 q, .int .i64 sm, .int .i64 sc, .int .i64 fm, .int .i64 fc, .slice A ls.length c] 26)).heap.size = w1.heap.size + 1 := by simp
  have hm : ((w1.alloc (.cells #[.int .i64 kd, .int .i64 o, .int .i64 q, .int .i64 sm, .int .i64 sc, .int .i64 fm, .int .i64 fc, .slice A ls.length c] 26)).alloc (.cells #[] 50)).ownsRow (w1.heap.size + 1) 50 9 (.slice (some ⟨w1.heap.size + 1, 0, none⟩) 0 0) 0 [] := by
    have h := World.ownsRow_made (w1.alloc (.cells #[.int .i64 kd, .int .i64 o, .int .i64 q, .int .i64 sm, .int .i64 sc, .int .i64 fm, .int .i64 fc, .slice A ls.length c] 26)) (e := 50) (size := 9) #[] 0 (Nat.le_refl _) (by simp [maxLen]) rfl
    rw [hsz] at h; exact h
  have hW := Lib.hid (fun (w' : World) (A' : Option Addr) (c' : Nat) (hr : Rd w' 9 A' ls.length (cRc ls)) (hrs : ∀ x ∈ ls, Rd w' 1 x.A x.r.val.length (cB x.r.val)) => wEncode_any w' kd o q sm sc fm fc A' _ c' ls rfl hr hrs (by omega))
  have hF := Lib.hid (fun (w' : World) (A' : Option Addr) (c' : Nat) (hr : Rd w' 9 A' ls.length (cRc ls)) (hrs : ∀ x ∈ ls, Rd w' 1 x.A x.r.val.length (cB x.r.val)) => refEncW_any w' kd o q sm sc fm fc A' _ c' ls rfl hr hrs (by omega))
  have hbk := encW_back (x := ⟨kd, o, q, sm, sc, fm, fc, ls.map RcV.r⟩)
  unfold EncWPost at hW
  unfold REncPost at hF
  obtain ⟨⟨E, z⟩, ht⟩ : ∃ t, Hid (encW ⟨kd, o, q, sm, sc, fm, fc, ls.map RcV.r⟩ = t) := ⟨_, rfl⟩
  rw [ht.out] at hW hF hbk
  simp only at hW hF hbk
  obtain ⟨hEl, hbk⟩ := hbk
  have HBK := Lib.hid hbk
  clear hbk ht
  go_wp2_with (at_builtin; refine wpList_append_rd _ rfl (.tmp 13) (.tmp 15) 24 (by rfl) (w1.heap.size + 1) 50 i1 _ 9 96 Try.underlying24 hi1 hy0 hy1 hy2 rfl (by omega) (.slice (some ⟨w1.heap.size + 1, 0, none⟩) 0 0) 0 [] (by rfl) hm A ls.length c (cRc ls) (by rfl) (r1.alloc _) (cRc_one _) (by unfold maxLen; omega) (by omega) (by simp) ?_; intro A2 c2 w2 hown2 hgr2 hb2; simp only [Nat.zero_add, List.nil_append] at hown2; have hch2 : Chg [] (w1.alloc (.cells #[.int .i64 kd, .int .i64 o, .int .i64 q, .int .i64 sm, .int .i64 sc, .int .i64 fm, .int .i64 fc, .slice A ls.length c] 26)) w2 := ((Chg.refl [] _).alloc _).grown hgr2 (fun k hk => .inr (by simp [Value.ownBlock] at hk; rw [hsz]; omega)); have ax2 := ax.keep hch2 (by simp); have x0 := ax2.cell 0; have x1 := ax2.cell 1; have x2 := ax2.cell 2; have x3 := ax2.cell 3; have x4 := ax2.cell 4; have x5 := ax2.cell 5; have x6 := ax2.cell 6; have x7 := ax2.cell 7; have fx7 := ax2.free 7; simp only [List.getElem?_toArray, List.getElem?_cons_zero, List.getElem?_cons_succ] at x0 x1 x2 x3 x4 x5 x6 x7)
  have q3 : Chg [w1.heap.size] w2 (w2.setCell ⟨w1.heap.size, 7, none⟩ (.slice A2 ls.length c2)) := (Chg.refl _ _).setCell (.inl (by simp)) _
  have ax3 : At (w2.setCell ⟨w1.heap.size, 7, none⟩ (.slice A2 ls.length c2)) w1.heap.size 26 #[.int .i64 kd, .int .i64 o, .int .i64 q, .int .i64 sm, .int .i64 sc, .int .i64 fm, .int .i64 fc, .slice A2 ls.length c2] := by simpa using ax2.set_ 7 (.slice A2 ls.length c2)
  have aw3 := (aw.keep hch2 (by simp)).keep q3 (by simp; omega)
  have own3 := own_keep hown2 q3 (fun k hk hm => by have := (hown2.lt k hk).1; simp at hm; omega)
  have c3 : Chg [] w _ := (cx.trans hch2 (by simp)).trans q3 (by simp; omega)
  clear x0 x1 x2 x3 x4 x5 x6 x7 fx7 ax ax2 aw q1 q3 hown2 hgr2 hb2 hch2 cx r1 hm hsz y0 y1 y2 y3 y4 y5 y6 y7 a1 c1
  generalize w2.setCell ⟨w1.heap.size, 7, none⟩ (.slice A2 ls.length c2) = w3 at *
  refine (hW.out w3 A2 c2 (Rd.of_own own3) (fun x hx => (RS.out x hx).keep0 c3)).mono ?_
  rintro e w4 ⟨A4, c4, rfl, hnb⟩
  obtain ⟨r4, hcap4, -, hch4, -⟩ := hnb
  have ax4 := ax3.keep hch4 (by simp)
  have aw4 := aw3.keep hch4 (by simp)
  have own4 := own_k0 own3 hch4
  have cc4 := c3.trans hch4 (by simp)
  clear ax3 aw3 own3 c3 hch4 hW
  have y0 := aw4.cell 0
  have y1 := aw4.cell 1
  have y2 := aw4.cell 2
  have y3 := aw4.cell 3
  have y4 := aw4.cell 4
  have y5 := aw4.cell 5
  have y6 := aw4.cell 6
  have y7 := aw4.cell 7
  simp only [List.getElem?_toArray, List.getElem?_cons_zero, List.getElem?_cons_succ] at y0 y1 y2 y3 y4 y5 y6 y7
  go_wp2_with (fail)
  refine (hF.out w4 A c (RD.out.keep0 cc4) (fun x hx => (RS.out x hx).keep0 cc4)).mono ?_
  rintro e w5 ⟨A5, c5, rfl, r5, hch5⟩
  have ax5 := ax4.keep hch5 (by simp)
  have aw5 := aw4.keep hch5 (by simp)
  have own5 := own_k0 own4 hch5
  have cc5 := cc4.trans hch5 (by simp)
  have r45 := r4.keep0 hch5
  clear ax4 aw4 own4 cc4 hch5 hF r4 y0 y1 y2 y3 y4 y5 y6 y7
  have hzb : ((z : Int) != (z : Int)) = false := by simp
  go_wp2_with (fail)
  (with_reducible refine (same_tt _ _ _ _ _ _ _ E E true (by simp) rfl rfl r45 r5 (by omega)).mono ?_)
  rintro e w6 ⟨rfl, hch6⟩
  have ax6 := ax5.keep hch6 (by simp)
  have aw6 := aw5.keep hch6 (by simp)
  have own6 := own_k0 own5 hch6
  have cc6 := cc5.trans hch6 (by simp)
  have r46 := r45.keep0 hch6
  clear ax5 aw5 own5 cc5 hch6 r5 r45
  have y0 := aw6.cell 0
  have y1 := aw6.cell 1
  have y2 := aw6.cell 2
  have y3 := aw6.cell 3
  have y4 := aw6.cell 4
  have y5 := aw6.cell 5
  have y6 := aw6.cell 6
  have y7 := aw6.cell 7
  simp only [List.getElem?_toArray, List.getElem?_cons_zero, List.getElem?_cons_succ] at y0 y1 y2 y3 y4 y5 y6 y7
  have u0 := ax6.cell 0
  have u1 := ax6.cell 1
  have u2 := ax6.cell 2
  have u3 := ax6.cell 3
  have u4 := ax6.cell 4
  have u5 := ax6.cell 5
  have u6 := ax6.cell 6
  have u7 := ax6.cell 7
  simp only [List.getElem?_toArray, List.getElem?_cons_zero, List.getElem?_cons_succ] at u0 u1 u2 u3 u4 u5 u6 u7
  go_wp2_with (fail)
  refine (words_yes w6 kd o q sm sc fm fc A2 A _ _ c2 c ls ls rfl rfl rfl (Rd.of_own own6) (RD.out.keep0 cc6) (fun x hx => (RS.out x hx).keep0 cc6) (fun x hx => (RS.out x hx).keep0 cc6) (by omega)).mono ?_
  rintro e w7 ⟨rfl, hch7⟩
  have aw7 := aw6.keep hch7 (by simp)
  have cc7 := cc6.trans hch7 (by simp)
  have r47 := r46.keep0 hch7
  clear ax6 aw6 own6 cc6 hch7 r46 y0 y1 y2 y3 y4 y5 y6 y7 u0 u1 u2 u3 u4 u5 u6 u7
  by_cases hz : z = 0
  rotate_left
  · have hzb2 : ((z : Int) != 0) = true := by rw [bne_iff_ne]; omega
    clear hz
    go_wp2_with (go_at_call 14; (with_reducible refine (knownW_any _).mono ?_); rintro e w9 ⟨rfl, hch9⟩)
    go_ret
    exact ⟨rfl, cc7.trans hch9 (by simp)⟩
  have hd := HBK.out hz
  subst hz
  have HDC := Lib.hid (wDecode_any w7 A4 _ c4 E rfl r47 hcap4 (by omega))
  rw [hd] at HDC
  clear hd HBK hzb
  go_wp2_with (fail)
  refine HDC.out.mono ?_
  rintro e w8 ⟨⟨xk, xo, xq, xsm, xsc, xfm, xfc, A8, l8, c8⟩, rfl, hx8, hown8, hO8, hch8⟩
  simp only [WdV.d, Wd.mk.injEq] at hx8
  obtain ⟨rfl, rfl, rfl, rfl, rfl, rfl, rfl, hl8⟩ := hx8
  simp only [WdV.cells] at hown8 hO8 ⊢
  have aw8 := aw7.keep hch8 (by simp)
  have cc8 := cc7.trans hch8 (by simp)
  have hl8' : l8.length ≤ 400 := by have h := congrArg List.length hl8; simp only [List.length_map] at h; omega
  have HL8 := Lib.hid hl8
  have HO8 : Hid (∀ x ∈ l8, Rd w8 1 x.A x.r.val.length (cB x.r.val)) := fun x hx => Rd.of_own (hO8 x hx)
  clear HDC hl8 hO8 aw7 cc7 hch8 r47
  have aw9 := aw8.al (.cells #[.int .i64 xk, .int .i64 xo, .int .i64 xq, .int .i64 xsm, .int .i64 xsc, .int .i64 xfm, .int .i64 xfc, .slice A8 l8.length c8] 26)
  have y0 := aw9.cell 0
  have y1 := aw9.cell 1
  have y2 := aw9.cell 2
  have y3 := aw9.cell 3
  have y4 := aw9.cell 4
  have y5 := aw9.cell 5
  have y6 := aw9.cell 6
  have y7 := aw9.cell 7
  simp only [List.getElem?_toArray, List.getElem?_cons_zero, List.getElem?_cons_succ] at y0 y1 y2 y3 y4 y5 y6 y7
  go_wp2_with (fail)
  have q9 := (Chg.refl [] w8).alloc (.cells #[.int .i64 xk, .int .i64 xo, .int .i64 xq, .int .i64 xsm, .int .i64 xsc, .int .i64 xfm, .int .i64 xfc, .slice A8 l8.length c8] 26)
  have cc9 := cc8.t0 q9
  refine (words_yes _ xk xo xq xsm xsc xfm xfc A8 A _ _ c8 c l8 ls HL8.out rfl rfl ((Rd.of_own hown8).keep0 q9) (RD.out.keep0 cc9) (fun x hx => (HO8.out x hx).keep0 q9) (fun x hx => (RS.out x hx).keep0 cc9) (by omega)).mono ?_
  rintro e w10 ⟨rfl, hch10⟩
  have cc10 := cc9.trans hch10 (by simp)
  go_wp2_with (go_at_call 14; (with_reducible refine (knownW_any _).mono ?_); rintro e w9 ⟨rfl, hch9⟩)
  go_ret
  exact ⟨rfl, cc10.trans hch9 (by simp)⟩
end Go.Proofs.Ytkdbjhmffnjimaa
