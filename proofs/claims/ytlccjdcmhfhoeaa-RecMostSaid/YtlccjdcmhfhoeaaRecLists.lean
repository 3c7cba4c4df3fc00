
/-
  RecLists: the walk of the law.
-/
import Derived.Test.YtlccjdcmhfhoeaaRecReads
import Derived.Test.YtlccjdcmhfhoeaaRecLi2
import Derived.Test.YtlccjdcmhfhoeaaRecApart
namespace Go.Proofs.Ytlccjdcmhfhoeaa
open Go.RowKit
set_option linter.unusedVariables false

theorem lstR_len {l : List Rc} : (lstR l).1.length ≤ 100000 := by
  unfold lstR
  split
  · simp
  · split
    · rename_i h1 h2
      have h3 := rows_le l (fun r hr => List.all_eq_true.1 h2 r hr)
      have h4 := enc_len9 (clamp_le ((l.length : Int)))
      unfold encL
      simp only [List.length_append, encs, List.map_cons, List.map_nil, List.flatten_cons, List.flatten_nil, List.append_nil]
      omega
    · simp
theorem lstR_back {l : List Rc} (h : (lstR l).2 = 0) : decL (lstR l).1 = some l ∧ l.length ≤ 64 := by
  unfold lstR at *
  split at h
  · simp at h
  · rename_i h1
    split at h
    · rename_i h2
      rw [if_neg h1, if_pos h2]
      exact ⟨decL_enc (fun r hr => isR_iff.1 (List.all_eq_true.1 h2 r hr)) (by omega), by omega⟩
    · simp at h

set_option maxRecDepth 100000 in
set_option maxHeartbeats 3200000 in
theorem recLists_law (w : World) (x : Sl RcV) (hx : Rd w 9 x.A x.ls.length (x.ls.flatMap RcV.cells) ∧ x.ls.length ≤ x.c ∧ x.c ≤ maxLen ∧ x.ls.length * 96 ≤ 140737488351232 ∧ ∀ a ∈ x.ls, a.In w) :
    Calls Try.prog 9 #[.slice x.A x.ls.length x.c] w fun e w' => e = .returned (.bool true) ∧ Chg [] w w' := by
  obtain ⟨i1, hi1, hy0, hy1, hy2⟩ := info_parts info_rec
  obtain ⟨A, c, ls⟩ := x
  obtain ⟨rx, hxc, _, hxl, hxs⟩ := hx
  simp only at rx hxc hxl hxs ⊢
  have RX : Hid (Rd w 9 A ls.length (cRc ls)) := rx
  have HXS := Lib.hid hxs
  have RV : Hid (∀ x ∈ ls, Rd w 1 x.A x.r.val.length (cB x.r.val)) := fun x hx => (hxs x hx).rd
  clear rx hxs
  go_enter Try.func9, Try.ntmps9
  go_wp2_with (fail)
  refine (heavyR_any _ A _ c ls rfl RX.out (by omega) (fun x hx => ⟨(HXS.out x hx).kl, (HXS.out x hx).vl⟩)).mono ?_
  rintro e w1 ⟨hv1, rfl, hlight, hch1⟩
  cases hv1
  · have hlt := hlight rfl
    have hn : ls.length ≤ 300 := by omega
    have r1 := RX.out.keep0 hch1
    clear hlight hlt hxl
    have h1 := Lib.hid (fun w (A : Option Addr) (c : Nat) hr hrs => recList_any w A _ c ls rfl hr hrs (by omega))
    have h2 := Lib.hid (fun w (A : Option Addr) (c : Nat) hr hrs => refListR_any w A _ c ls rfl hr hrs (by omega))
    have hll := lstR_len (l := ls.map RcV.r)
    have hbk := Lib.hid (fun h => lstR_back (l := ls.map RcV.r) h)
    unfold ListPost at h1 h2
    obtain ⟨t, ht⟩ : ∃ t, Hid (lstR (ls.map RcV.r) = t) := ⟨_, rfl⟩
    rw [ht.out] at h1 h2 hll hbk
    obtain ⟨E, z⟩ := t
    simp only at h1 h2 hll hbk
    clear ht
    go_wp2_with (at_builtin; refine wpList_append_rd _ rfl (.tmp 12) (.tmp 13) 30 (by rfl) w1.heap.size 28 i1 _ 9 96 Try.underlying30 hi1 hy0 hy1 hy2 rfl (by omega) (.slice (some ⟨w1.heap.size, 0, none⟩) 0 0) 0 [] (by rfl) (World.ownsRow_made w1 #[] 0 (Nat.le_refl _) (by simp [maxLen]) rfl) A ls.length c (cRc ls) (by rfl) (r1.alloc _) (cRc_one _) (by unfold maxLen; omega) (by omega) (by simp) ?_; intro A2 c2 w2 hown2 hg2 hb2; simp only [Nat.zero_add, List.nil_append] at hown2; have hch2 : Chg [] w1 w2 := ((Chg.refl [] w1).alloc _).grown hg2 (fun k hk => .inr (by simp [Value.ownBlock] at hk; omega)))
    have hc2 := hch1.trans hch2 (by simp)
    refine (h1.out w2 A2 c2 (Rd.of_own hown2) (fun x hx => (RV.out x hx).keep0 hc2)).mono ?_
    rintro e w3 ⟨A3, c3, rfl, hown3, hch3⟩
    have r3 := Rd.of_own hown3
    have hc3 := hc2.trans hch3 (by simp)
    clear hown2 hg2 hb2 hown3 hch2 hch3 r1
    go_wp2_with (fail)
    refine (h2.out w3 A c (RX.out.keep0 hc3) (fun x hx => (RV.out x hx).keep0 hc3)).mono ?_
    rintro e w4 ⟨A4, c4, rfl, hown4, hch4⟩
    have r4 := Rd.of_own hown4
    have r34 := r3.keep0 hch4
    have hc4 := hc3.trans hch4 (by simp)
    have hzb : ((z : Int) != (z : Int)) = false := by simp
    clear hown4 hch4 r3 hc3 hc2
    go_wp2_with (fail)
    (with_reducible refine (same_to _ _ _ _ _ _ _ E E true (by simp) rfl rfl r34 r4 (by omega)).mono ?_)
    rintro e w5 ⟨rfl, hch5⟩
    have r35 := r34.keep0 hch5
    have hc5 := hc4.trans hch5 (by simp)
    clear r34 r4 hch5 hc4
    by_cases hz : z = 0
    · obtain ⟨hdl, hl64⟩ := hbk.out hz
      subst hz
      have HRL := Lib.hid (recReadList_any w5 A3 _ c3 E rfl r35 (by omega))
      unfold RListPost at HRL
      rw [hdl] at HRL
      simp only [Option.isSome_some, if_true, Option.getD_some] at HRL
      clear hdl hbk hzb
      go_wp2_with (fail)
      refine HRL.out.mono ?_
      rintro e w6 ⟨A6, c6, ls6, rfl, hls6, hown6, hO6, hch6⟩
      have r6 := Lib.hid (Rd.of_own hown6)
      have R6 := Lib.hid (fun (x : RcV) (hx : x ∈ ls6) => (Rd.of_own (hO6 x hx) : Rd w6 1 x.A x.r.val.length (cB x.r.val)))
      have HLS := Lib.hid hls6
      have hc6 := hc5.trans hch6 (by simp)
      have RVk : Hid (∀ x ∈ ls, Rd w6 1 x.A x.r.val.length (cB x.r.val)) := fun x hx => (RV.out x hx).keep0 hc6
      have hl6 : ls6.length ≤ 300 := by have := congrArg List.length hls6; simp at this; omega
      clear hown6 hO6 hls6 HRL r35
      go_wp2_with (fail)
      (with_reducible refine (records_yes _ _ _ _ _ _ _ ls6 ls HLS.out rfl rfl r6.out (RX.out.keep0 hc6) R6.out RVk.out (by omega)).mono ?_)
      rintro e w7 ⟨rfl, hch7⟩
      go_wp2_with (go_at_call 14; (with_reducible refine (knownR_any _).mono ?_); rintro e w9 ⟨rfl, hch9⟩)
      go_ret
      exact ⟨rfl, hc6.trans (hch7.trans hch9 (by simp)) (by simp)⟩
    · have hzb2 : ((z : Int) != 0) = true := by rw [bne_iff_ne]; omega
      clear hz
      go_wp2_with (go_at_call 14; (with_reducible refine (knownR_any _).mono ?_); rintro e w9 ⟨rfl, hch9⟩)
      go_ret
      exact ⟨rfl, hc5.trans hch9 (by simp)⟩
  · go_wp2_with (fail)
    go_ret
    exact ⟨rfl, hch1⟩
end Go.Proofs.Ytlccjdcmhfhoeaa
