
/-
  NetOrder: the walk of the law.
-/
import Derived.Test.YtbgdcplbekoemaaNetK
import Derived.Test.YtbgdcplbekoemaaKeep
import Derived.Deep.RegionHeld3
import Derived.Deep.RegionWith
namespace Go.Proofs.Ytbgdcplbekoemaa
open Go.RowKit
set_option linter.unusedVariables false
attribute [local go_sem ↓] run_min2 run_max2

theorem info_msgN : (Try.prog.info? 35).map (fun i => (i.zero, i.size, i.bytes)) = some (some (.agg #[.int .i64 0, .int .i64 0, .slice none 0 0]), 3, 40) := by kernel_rfl
/-- A row of the call's own, among other things. -/
def rOwn (e : TypeId) (size : Nat) (A : Option Addr) (n c : Nat) (xs : List Value) : Res := ⟨blk A, fun w => w.ownsRow 0 e size (.slice A n c) n xs⟩
theorem rOwn_stable (w0 : World) (e : TypeId) (size : Nat) (A : Option Addr) (n c : Nat) (xs : List Value) : Stable w0 (rOwn e size A n c xs) :=
  fun _ _ h _ hk => own_stable h (fun b hb hm => hk b hb (.inl hm))
theorem NetA.rowS {w0 w w' : World} {gn : Nat} {l : List MV} {rs : List Res} (h : NetA w0 w gn l rs) (hc : Chg [] w w') {e : TypeId} {size : Nat} {A : Option Addr} {n c : Nat} {xs : List Value} (ho : w'.ownsRow w.heap.size e size (.slice A n c) n xs) : NetA w0 w' gn l (rOwn e size A n c xs :: rs) := h.beside fun r H =>
  H.new hc _ (fun b hb => own_in ho b hb) (blk_nodup A) (own_base ho (fun _ _ => Nat.zero_le _)) (rOwn_stable _ _ _ _ _ _ _)
theorem message_yes (w : World) (f t : Int) (A B : Option Addr) (n m c d : Nat) (xs : List UInt8) (hn : xs.length = n) (hm : xs.length = m) (hx : Rd w 1 A xs.length (cB xs)) (hy : Rd w 1 B xs.length (cB xs)) (hl : xs.length ≤ 140737488355328) :
    Calls Try.prog 14 #[.agg #[.int .i64 f, .int .i64 t, .slice A n c], .agg #[.int .i64 f, .int .i64 t, .slice B m d]] w fun e w' => e = .returned (.bool true) ∧ Chg [] w w' := by
  refine (message_any w f t f t A B n m c d xs xs hn hm hx hy hl).mono ?_
  rintro e w' ⟨rfl, h⟩
  exact ⟨by simp, h⟩
/-- Messages in a row that are all sent. -/
theorem send_whole {w0 w : World} {gn : Nat} {l : List MV} {rs : List Res} (A : Option Addr) (n c : Nat) (ms : List MsgV) (hn : ms.length = n) (hM : MsIn w0 A ms) (h : NetA w0 w gn l rs) (hl : l.length + ms.length ≤ 1024) :
    Calls Try.prog 11 #[.pointer (some ⟨gn, 0, none⟩), .slice A n c] w fun e w' => e = .returned (.int .i64 n) ∧ NetA w0 w' gn (l ++ ms.map MsgV.val) rs ∧ w.heap.size ≤ w'.heap.size := by
  refine (send_all h (by omega) A n c ms hn (by omega) (fun w' _ ⟨l', h'⟩ => hM.k h'.chg)).mono ?_
  rintro e w' ⟨rfl, h', hs⟩
  rw [Nat.min_eq_left (by omega), hn]
  refine ⟨rfl, ?_, hs⟩
  unfold sendL at h'
  rw [Nat.min_eq_left (by omega), List.take_of_length_le (by simp)] at h'
  exact h'
set_option maxRecDepth 100000 in
set_option maxHeartbeats 6400000 in
theorem netOrder_law (w : World) (x : Sl MsgV) (hx : Rd w 3 x.A x.ls.length (x.ls.flatMap MsgV.cells) ∧ x.ls.length ≤ x.c ∧ x.c ≤ maxLen ∧ x.ls.length * 40 ≤ 140737488351232 ∧ ∀ a ∈ x.ls, a.Op w)
    (y : Sl MsgV) (hy : Rd w 3 y.A y.ls.length (y.ls.flatMap MsgV.cells) ∧ y.ls.length ≤ y.c ∧ y.c ≤ maxLen ∧ y.ls.length * 40 ≤ 140737488351232 ∧ ∀ a ∈ y.ls, a.Op w) :
    Calls Try.prog 4 #[.slice x.A x.ls.length x.c, .slice y.A y.ls.length y.c] w fun e w' => e = .returned (.bool true) ∧ Chg [] w w' := by
  obtain ⟨i1, hi1, hy0, hy1, hy2⟩ := info_parts info_msgN
  obtain ⟨A, c, ls⟩ := x
  obtain ⟨B, d, ms⟩ := y
  obtain ⟨rx, hxc, hxm, hxl, hxs⟩ := hx
  obtain ⟨ry, hyc, hym, hyl, hys⟩ := hy
  simp only at rx hxc hxm hxl hxs ry hyc hym hyl hys ⊢
  have RX : Hid (Rd w 3 A ls.length (cMs ls)) := rx
  have RY : Hid (Rd w 3 B ms.length (cMs ms)) := ry
  have HXS := Lib.hid hxs
  have HYS := Lib.hid hys
  have HH1 := Lib.hid (heavyN_one (w.alloc (.cells #[.int .i64 0, .int .i64 0, .int .i64 0, .int .u8 0, .slice A ls.length c] 26)) w.heap.size A c ls (At.new _ _ _) (RX.out.alloc _) hxc hxm hxl (fun x hx => (hxs x hx).k ((Chg.refl [] w).alloc _)))
  have HH2 := Lib.hid (fun (v : World) (hv : Chg [] w v) (g : Nat) (hg : g = v.heap.size) => heavyN_one (v.alloc (.cells #[.int .i64 0, .int .i64 0, .int .i64 0, .int .u8 0, .slice B ms.length d] 26)) g B d ms (At.newG _ _ _ hg) ((RY.out.keep0 hv).alloc _) hyc hym hyl (fun x hx => (hys x hx).k (hv.alloc _)))
  clear rx ry hxs hys
  go_enter Try.func4, Try.ntmps4
  go_wp2_with (fail)
  refine HH1.out.mono ?_
  rintro e w1 ⟨hv, rfl, rfl, hlight⟩
  clear HH1
  cases hv
  rotate_left
  · go_wp2_with (fail)
    go_ret
    exact ⟨rfl, (Chg.refl _ _).alloc _⟩
  have HL1 := Lib.hid (hlight rfl)
  clear hlight
  go_wp2_with (fail)
  have HH3 := Lib.hid (HH2.out (w.alloc (.cells #[.int .i64 0, .int .i64 0, .int .i64 0, .int .u8 0, .slice A ls.length c] 26)) ((Chg.refl _ _).alloc _) (w.heap.size + 1) (by simp))
  refine HH3.out.mono ?_
  rintro e w1 ⟨hv, rfl, rfl, hlight⟩
  clear HH2 HH3
  have hcA : Chg [] w ((w.alloc (.cells #[.int .i64 0, .int .i64 0, .int .i64 0, .int .u8 0, .slice A ls.length c] 26)).alloc (.cells #[.int .i64 0, .int .i64 0, .int .i64 0, .int .u8 0, .slice B ms.length d] 26)) := ((Chg.refl _ _).alloc _).alloc _
  have HCA := Lib.hid hcA
  clear hcA
  cases hv
  rotate_left
  · go_wp2_with (fail)
    go_ret
    exact ⟨rfl, HCA.out⟩
  have HL2 := Lib.hid (hlight rfl)
  clear hlight
  by_cases h5 : 500 < ls.length + ms.length
  · have h5b : decide ((500 : Int) < (ls.length : Int) + (ms.length : Int)) = true := decide_eq_true (by omega)
    go_wp2_with (fail)
    go_ret
    exact ⟨rfl, HCA.out⟩
  have h5b : decide ((500 : Int) < (ls.length : Int) + (ms.length : Int)) = false := decide_eq_false (by omega)
  have M1 : Hid (MsIn w A ls) := ⟨RX.out, fun x hx => ⟨(HXS.out x hx).rd, (HXS.out x hx).nil, Nat.le_trans (HL1.out.2 x hx) (by omega)⟩⟩
  have M2 : Hid (MsIn w B ms) := ⟨RY.out, fun x hx => ⟨(HYS.out x hx).rd, (HYS.out x hx).nil, Nat.le_trans (HL2.out.2 x hx) (by omega)⟩⟩
  clear HXS HYS HL1 HL2
  generalize (w.alloc (.cells #[.int .i64 0, .int .i64 0, .int .i64 0, .int .u8 0, .slice A ls.length c] 26)).alloc (.cells #[.int .i64 0, .int .i64 0, .int .i64 0, .int .u8 0, .slice B ms.length d] 26) = w2 at *
  go_wp2_with (fail)
  refine (new_all ((All.start w).quiet HCA.out)).mono ?_
  rintro e w3 ⟨gn, rfl, H1, hs1, hgn⟩
  have HN := Lib.hid H1
  clear H1 HCA h5b
  go_wp2_with (fail)
  refine (send_whole A _ c ls rfl M1.out HN.out (by simp; omega)).mono ?_
  rintro e w4 ⟨rfl, H2, hs2⟩
  rw [List.nil_append] at H2
  clear HN
  have HN := Lib.hid H2
  clear H2
  go_wp2_with (fail)
  refine (send_whole B _ d ms rfl M2.out HN.out (by simp; omega)).mono ?_
  rintro e w5 ⟨rfl, H3, hs3⟩
  rw [← List.map_append] at H3
  clear HN
  have HN := Lib.hid H3
  have HC5 := Lib.hid H3.chg
  clear H3
  go_wp2_with (first
    | (at_builtin
       refine wpList_append_rd _ rfl (.tmp 47) (.tmp 48) 22 (by rfl) w5.heap.size 35 i1 _ 3 40 Try.underlying22 hi1 hy0 hy1 hy2 rfl (by omega) (.slice (some ⟨w5.heap.size, 0, none⟩) 0 0) 0 [] (by rfl) (World.ownsRow_made w5 #[] 0 (Nat.le_refl _) (by simp [maxLen]) rfl) A ls.length c (cMs ls) (by rfl) ((RX.out.keep0 HC5.out).alloc _) (cMs_one _) (by unfold maxLen; omega) (by omega) (by simp) ?_
       intro A3 c3 w6 hown6 hg6 hb6
       simp only [Nat.zero_add, List.nil_append] at hown6
       have hch6 : Chg [] w5 w6 := ((Chg.refl [] w5).alloc _).grown hg6 (fun k hk => .inr (by simp [Value.ownBlock] at hk; omega))
       have hsz6 := hch6.size)
    | (at_builtin
       refine wpList_append_rd _ rfl (.tmp 49) (.tmp 50) 22 (by rfl) w5.heap.size 35 i1 _ 3 40 Try.underlying22 hi1 hy0 hy1 hy2 rfl (by omega) (.slice A3 ls.length c3) ls.length _ (by rfl) hown6 B ms.length d (cMs ms) (by rfl) (RY.out.keep0 (HC5.out.trans hch6 (by simp))) (cMs_one _) (by unfold maxLen; omega) (by omega) (by omega) ?_
       intro A4 c4 w7 hown7 hg7 hb7
       have hch7 : Chg [] w5 w7 := hch6.grown hg7 (fun k hk => .inr (hown6.lt k hk).1)
       have hsz7 := hch7.size))
  rw [← cMs_app] at hown7
  have HN7 := Lib.hid (HN.out.rowS hch7 hown7)
  have MA : Hid (∀ x ∈ ls ++ ms, x.In w) := fun x hx => by
    rcases List.mem_append.1 hx with h | h
    · exact M1.out.each x h
    · exact M2.out.each x h
  have hln : ls.length + ms.length = (ls ++ ms).length := by simp
  rw [hln] at HN7 ⊢
  have hl5 : (ls ++ ms).length ≤ 500 := by omega
  clear M1 M2 HN hown7 hown6 hg6 hb6 hg7 hb7 hln RX RY hch6 hch7 HC5
  generalize ls ++ ms = zs at *
  go_loopw [7] (fun i wr => ∃ k : Nat, k ≤ zs.length ∧ i = .int .i64 k ∧ Hid (NetA w wr gn ((zs.map MsgV.val).drop k) [rOwn 35 3 A4 zs.length c4 (cMs zs)])) (fun i _ => zs.length - (intOf i).toNat)
  case atStart => exact ⟨0, Nat.zero_le _, rfl, HN7⟩
  case round =>
    obtain ⟨k, hk, rfl, HN⟩ := hrel
    by_cases hlt : k < zs.length
    · have hlm : k < (zs.map MsgV.val).length := by simpa using hlt
      have hld : ((zs.map MsgV.val).drop k).length = zs.length - k := by simp
      have hm : ((zs.map MsgV.val).drop k)[0]? = some zs[k].val := by simp [hlt]
      have HG := Lib.hid (give_all HN.out (by omega) (by omega) 0 0 (by simp [pickN]) zs[k].val hm)
      rw [List.eraseIdx_zero, List.tail_drop] at HG
      have hIn := MA.out _ (List.getElem_mem hlt)
      have HMS : Hid (∀ wr, NetA w wr gn ((zs.map MsgV.val).drop (k + 1)) [rOwn 35 3 A4 zs.length c4 (cMs zs)] → MsIn wr A4 zs) := fun wr h => ⟨Rd.of_own (h.at_ 0 rfl), fun x hx => (MA.out x hx).k h.chg⟩
      have HG3 : Hid (∀ wr, MsIn wr A4 zs → ∃ ad, A4 = some ad ∧ ad.block < wr.heap.size ∧ wr.cell? (ad.add (k * 3)) = some (.int .i64 zs[k].f) ∧ wr.cell? ⟨(ad.add (k * 3)).block, (ad.add (k * 3)).off + 1, none⟩ = some (.int .i64 zs[k].t) ∧ wr.cell? ⟨(ad.add (k * 3)).block, (ad.add (k * 3)).off + 2, none⟩ = some (.slice zs[k].A zs[k].d.length zs[k].cp)) := fun wr h => h.get3 hlt
      have hki : (k : Int) < (zs.length : Int) := by omega
      clear HN hm hld hlm
      generalize zs[k] = x at *
      obtain ⟨xf, xt, xd, xA, xcp⟩ := x
      simp only [MsgV.val] at HG hIn HG3
      have HI := Lib.hid hIn
      clear hIn
      go_wp2_with (fail)
      refine HG.out.mono ?_
      rintro e w8 ⟨D, c8, rfl, H8, hs8⟩
      clear HG
      have HN8 := Lib.hid H8
      clear H8
      have q9 := (Chg.refl [] w8).alloc (.cells #[.int .i64 xf, .int .i64 xt, .slice D xd.length c8] 35)
      have z9 := At.new w8 35 #[.int .i64 xf, .int .i64 xt, .slice D xd.length c8]
      have Z9 := Lib.hid z9
      have HN9 := Lib.hid (HN8.out.quiet q9)
      have RD9 := Lib.hid (Rd.of_own (HN9.out.at_ 0 rfl))
      have MI9 := Lib.hid (HMS.out _ HN9.out.tail)
      obtain ⟨ad, rfl, had, g0, g1, g2⟩ := HG3.out _ MI9.out
      have RX9 := Lib.hid (HI.out.k HN9.out.chg).rd
      clear z9 q9
      go_wp2_with (fail)
      generalize hgb : w8.heap.size = gb at *
      generalize w8.alloc (.cells #[.int .i64 xf, .int .i64 xt, .slice D xd.length c8] 35) = wz at *
      have hadk : (ad.add (k * 3)).block < wz.heap.size := by rw [add_block]; exact had
      have KK : Hid (∀ w', Chg [] wz w' → w'.cell? ⟨gb, 0, none⟩ = some (.int .i64 xf) ∧ w'.cell? ⟨gb, 1, none⟩ = some (.int .i64 xt) ∧ w'.cell? ⟨gb, 2, none⟩ = some (.slice D xd.length c8) ∧ w'.cell? (ad.add (k * 3)) = some (.int .i64 xf) ∧ w'.cell? ⟨(ad.add (k * 3)).block, (ad.add (k * 3)).off + 1, none⟩ = some (.int .i64 xt) ∧ w'.cell? ⟨(ad.add (k * 3)).block, (ad.add (k * 3)).off + 2, none⟩ = some (.slice xA xd.length xcp)) := fun w' hc => ⟨(Z9.out.keep hc (by simp)).cell 0, (Z9.out.keep hc (by simp)).cell 1, (Z9.out.keep hc (by simp)).cell 2, (hc.cell hadk (by simp)).trans g0, (hc.cell (p := ⟨(ad.add (k * 3)).block, (ad.add (k * 3)).off + 1, none⟩) hadk (by simp)).trans g1, (hc.cell (p := ⟨(ad.add (k * 3)).block, (ad.add (k * 3)).off + 2, none⟩) hadk (by simp)).trans g2⟩
      clear g0 g1 g2 had hadk Z9 HG3 HMS MI9
      obtain ⟨t0, t1, t2, g0, g1, g2⟩ := KK.out wz (Chg.refl _ _)
      have hd := Lib.hid (Nat.le_trans HI.out.dl (by omega) : xd.length ≤ 140737488355328)
      go_region_held3 (fun w' => w'.cell? ⟨gb, 0, none⟩ = some (.int .i64 xf) ∧ w'.cell? ⟨gb, 1, none⟩ = some (.int .i64 xt) ∧ w'.cell? ⟨gb, 2, none⟩ = some (.slice D xd.length c8) ∧ w'.cell? (ad.add (k * 3)) = some (.int .i64 xf) ∧ w'.cell? ⟨(ad.add (k * 3)).block, (ad.add (k * 3)).off + 1, none⟩ = some (.int .i64 xt) ∧ w'.cell? ⟨(ad.add (k * 3)).block, (ad.add (k * 3)).off + 2, none⟩ = some (.slice xA xd.length xcp)) (first | go_keep | exact KK.out _ (by repeat' (first | (with_reducible assumption) | (with_reducible exact Chg.refl _ _) | (with_reducible refine Chg.alloc ?_ _) | (with_reducible refine Chg.drewN ?_ _) | (with_reducible refine Chg.drew ?_) | (with_reducible refine Chg.strW ?_ _ _) | (with_reducible refine Chg.t0 ?_ (by with_reducible assumption)))) | fail)
        (first
          | (go_simp; go_at_call 14; (with_reducible refine (message_yes _ xf xt D xA _ _ c8 xcp xd rfl rfl (RD9.out.keep0 (by repeat' (first | (with_reducible assumption) | (with_reducible exact Chg.refl _ _) | (with_reducible refine Chg.alloc ?_ _) | (with_reducible refine Chg.drewN ?_ _) | (with_reducible refine Chg.drew ?_) | (with_reducible refine Chg.strW ?_ _ _) | (with_reducible refine Chg.t0 ?_ (by with_reducible assumption))))) (RX9.out.keep0 (by repeat' (first | (with_reducible assumption) | (with_reducible exact Chg.refl _ _) | (with_reducible refine Chg.alloc ?_ _) | (with_reducible refine Chg.drewN ?_ _) | (with_reducible refine Chg.drew ?_) | (with_reducible refine Chg.strW ?_ _ _) | (with_reducible refine Chg.t0 ?_ (by with_reducible assumption))))) hd.out).mono ?_); rintro e w5 ⟨rfl, hchd⟩; have hch5 : Hid (Chg [] wz w5) := ((by repeat' (first | (with_reducible assumption) | (with_reducible exact Chg.refl _ _) | (with_reducible refine Chg.alloc ?_ _) | (with_reducible refine Chg.drewN ?_ _) | (with_reducible refine Chg.drew ?_) | (with_reducible refine Chg.strW ?_ _ _) | (with_reducible refine Chg.t0 ?_ (by with_reducible assumption)))) : Chg [] wz w5); obtain ⟨t0, t1, t2, g0, g1, g2⟩ := KK.out w5 hch5.out))
      all_goals
        have HN6 := Lib.hid ((HN9.out.quiet hch5.out).tail)
        clear HN9 RD9 RX9 KK t0 t1 t2 g0 g1 g2 hchd HI
        go_wp2_with (fail)
        go_roundw
        case rel => exact ⟨k + 1, by omega, by go_num, HN6⟩
        case measure => simp [intOf]; omega
    · obtain rfl : k = zs.length := by omega
      have hki : ¬ (zs.length : Int) < (zs.length : Int) := by omega
      have HN2 : Hid (NetA w wr gn [] [rOwn 35 3 A4 zs.length c4 (cMs zs)]) := by
        have h := HN.out
        rw [List.drop_eq_nil_of_le (by simp)] at h
        exact h
      clear HN
      go_wp2_with (fail)
      refine (len_all HN2.out).mono ?_
      rintro e w9 ⟨rfl, rfl⟩
      go_wp2_with (fail)
      refine (knownN_any _).mono ?_
      rintro e w9 ⟨rfl, hch9⟩
      go_wp2_with (fail)
      go_ret
      exact ⟨rfl, HN2.out.chg.trans hch9 (by simp)⟩
end Go.Proofs.Ytbgdcplbekoemaa
