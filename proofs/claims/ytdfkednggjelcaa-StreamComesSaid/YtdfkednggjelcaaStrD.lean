
/-
  stream's Done; messages that are alike.
-/
import Derived.Test.YtdfkednggjelcaaStrS
import Derived.Test.YtdfkednggjelcaaSameL
namespace Go.Proofs.Ytdfkednggjelcaa
open Go.RowKit
set_option linter.unusedVariables false
attribute [local go_sem ↓] run_min2 run_max2

theorem isW_ack2 {o q : Int} (h0 : 0 ≤ o) (h5 : o < 5) (q0 : 0 ≤ q) (q1 : q ≤ 1099511627776) : isW ⟨2, o, q, 0, 0, 0, 0, []⟩ = true := by
  have hh : headW ⟨2, o, q, 0, 0, 0, 0, []⟩ = true := by unfold headW; simp only [Bool.and_eq_true, decide_eq_true_eq]; omega
  unfold isW
  rw [hh]
  rfl
theorem same_self (w : World) (A B : Option Addr) (n m c d : Nat) (xs : List UInt8) (hn : xs.length = n) (hm : xs.length = m) (hx : Rd w 1 A xs.length (cB xs)) (hy : Rd w 1 B xs.length (cB xs)) (hl : xs.length ≤ 140737488355328) :
    Calls Try.prog 41 #[.slice A n c, .slice B m d] w fun e w' => e = .returned (.bool true) ∧ Chg [] w w' := by
  have h := same_any w A B n m c d xs xs hn hm hx hy hl
  rw [decide_eq_true rfl] at h
  exact h
def ackB (o q : Int) : List UInt8 := encF (bodyW ⟨2, o, q, 0, 0, 0, 0, []⟩)
def DonePost (g : Nat) (T : TypeId) (w : World) (i : ISt) (e : Ending) (w' : World) : Prop := ∃ A c ms, e = .returned (.slice A ms.length c) ∧ MsgsAt w' A ms [(i.a, i.o, ackB i.o i.k)] ∧ MsgsNew w A ms ∧ At w' g T i.cells ∧ Chg [g] w w'
set_option maxRecDepth 100000 in
set_option maxHeartbeats 6400000 in
theorem done_any (w : World) (gi : Nat) (i : ISt) (hin : At w gi 84 i.cells) (ho : i.Ok) (s : Int) :
    Calls Try.prog 18 #[.pointer (some ⟨gi, 0, none⟩), .int .i64 s] w (DonePost gi 84 w (doneI i s)) := by
  obtain ⟨c0, c1, c2⟩ := hin.i3
  have f2 := hin.free 2
  have hgi0 := hin.lt
  obtain ⟨a, o, k⟩ := i
  obtain ⟨a0, a5, o0, o5, k0, k1⟩ := ho
  simp only at c0 c1 c2 a0 a5 o0 o5 k0 k1
  have HIN := Lib.hid hin
  clear hin
  rw [show doneI ⟨a, o, k⟩ s = ⟨a, o, max k (min s 1099511627776)⟩ from rfl]
  go_enter Try.func18, Try.ntmps18
  go_wp2_with (fail)
  have HI1 := Lib.hid (ISt.setK HIN.out (max k (min s 1099511627776)))
  have q1 : Chg [gi] w (w.setCell ⟨gi, 2, none⟩ (.int .i64 (max k (min s 1099511627776)))) := (Chg.refl _ _).setCell (.inl (by simp)) _
  have b0 : 0 ≤ max k (min s 1099511627776) := by omega
  have b1 : max k (min s 1099511627776) ≤ 1099511627776 := by omega
  clear c0 c1 c2 f2 HIN
  generalize max k (min s 1099511627776) = q at *
  generalize w.setCell ⟨gi, 2, none⟩ (.int .i64 q) = w1 at *
  have hgi1 : gi < w1.heap.size := HI1.out.lt
  have hW := Lib.hid (isW_ack2 o0 o5 b0 b1)
  have KK : Hid (∀ w', Chg [] w1 w' → w'.cell? ⟨gi, 0, none⟩ = some (.int .i64 a) ∧ w'.cell? ⟨gi, 1, none⟩ = some (.int .i64 o) ∧ w'.cell? ⟨gi, 2, none⟩ = some (.int .i64 q)) := fun w' hc => (HI1.out.keep hc (by simp)).i3
  obtain ⟨c0, c1, c2⟩ := KK.out w1 (Chg.refl _ _)
  obtain ⟨E, hE⟩ : ∃ E, Hid (encF (bodyW ⟨2, o, q, 0, 0, 0, 0, []⟩) = E) := ⟨_, rfl⟩
  go_region_held3 (fun w' => w'.cell? ⟨gi, 0, none⟩ = some (.int .i64 a) ∧ w'.cell? ⟨gi, 1, none⟩ = some (.int .i64 o) ∧ w'.cell? ⟨gi, 2, none⟩ = some (.int .i64 q)) (first | go_keep | exact KK.out _ (by repeat' (first | (with_reducible assumption) | (with_reducible exact Chg.refl _ _) | (with_reducible refine Chg.alloc ?_ _) | (with_reducible refine Chg.drewN ?_ _) | (with_reducible refine Chg.drew ?_) | (with_reducible refine Chg.strW ?_ _ _) | (with_reducible refine Chg.t0 ?_ (by with_reducible assumption)))) | fail)
    (first
      | (go_simp; go_at_call 42; (with_reducible refine (wEncode_any _ 2 o q 0 0 0 0 none 0 0 [] rfl (Rd.nil _ _ _) (by simp) (by simp)).mono ?_); rw [List.map_nil, encW_yes hW.out, hE.out]; rintro e w2 ⟨A2, c2', rfl, hnb⟩; have hchd := hnb.2.2.2.1; have hch2 : Hid (Chg [] w1 w2) := ((by repeat' (first | (with_reducible assumption) | (with_reducible exact Chg.refl _ _) | (with_reducible refine Chg.alloc ?_ _) | (with_reducible refine Chg.drewN ?_ _) | (with_reducible refine Chg.drew ?_) | (with_reducible refine Chg.strW ?_ _ _) | (with_reducible refine Chg.t0 ?_ (by with_reducible assumption)))) : Chg [] w1 w2); simp only at hnb ⊢; have r2 := hnb.1; have hnw := Lib.hid hnb.2.2.1; have hcp := Lib.hid hnb.2.1; have hsd := hnb.2.2.2.1.size; clear hnb; obtain ⟨c0, c1, c2⟩ := KK.out w2 hch2.out))
  all_goals
    clear hchd KK
    have hsw1 : w.heap.size ≤ w1.heap.size := q1.size
    have hsw2 : w1.heap.size ≤ w2.heap.size := hch2.out.size
    have HNW : Hid (∀ x ∈ ([⟨a, o, E, A2, c2'⟩] : List MgV), 0 < x.d.length → ∀ k, k ∈ blk x.A → w.heap.size ≤ k) := fun x hx h0 k hk => by
      obtain rfl := List.mem_singleton.1 hx
      have := (hnw.out h0 k hk).1
      simp at this
      omega
    have HCP : Hid (∀ x ∈ ([⟨a, o, E, A2, c2'⟩] : List MgV), x.d.length ≤ x.cp) := fun x hx => by
      obtain rfl := List.mem_singleton.1 hx
      exact hcp.out
    clear hnw hsd
    have KK : Hid (∀ w', Chg [] w2 w' → w'.cell? ⟨gi, 0, none⟩ = some (.int .i64 a) ∧ w'.cell? ⟨gi, 1, none⟩ = some (.int .i64 o) ∧ w'.cell? ⟨gi, 2, none⟩ = some (.int .i64 q)) := fun w' hc => ((HI1.out.keep hch2.out (by simp)).keep hc (by simp)).i3
    go_wp2_with (fail)
    go_region_held3 (fun w' => w'.cell? ⟨gi, 0, none⟩ = some (.int .i64 a) ∧ w'.cell? ⟨gi, 1, none⟩ = some (.int .i64 o) ∧ w'.cell? ⟨gi, 2, none⟩ = some (.int .i64 q)) (first | go_keep | exact KK.out _ (by repeat' (first | (with_reducible assumption) | (with_reducible exact Chg.refl _ _) | (with_reducible refine Chg.alloc ?_ _) | (with_reducible refine Chg.drewN ?_ _) | (with_reducible refine Chg.drew ?_) | (with_reducible refine Chg.strW ?_ _ _) | (with_reducible refine Chg.t0 ?_ (by with_reducible assumption)))) | fail) (fail)
    all_goals
      go_wp2_with (fail)
      have q4 : Hid (Chg [] w2 (w2.alloc (.cells #[.int .i64 a, .int .i64 o, .slice A2 E.length c2'] 63)).drew) := ((Chg.refl [] w2).alloc _).drew
      have rm : Hid (Rd (w2.alloc (.cells #[.int .i64 a, .int .i64 o, .slice A2 E.length c2'] 63)).drew 3 (some ⟨w2.heap.size, 0, none⟩) 1 (cMg [⟨a, o, E, A2, c2'⟩])) := (Rd.new' rfl rfl rfl : Rd (w2.alloc (.cells #[.int .i64 a, .int .i64 o, .slice A2 E.length c2'] 63)) 3 (some ⟨w2.heap.size, 0, none⟩) 1 (cMg [⟨a, o, E, A2, c2'⟩])).keep0 ((Chg.refl [] _).drew)
      go_ret
      refine ⟨some ⟨w2.heap.size, 0, none⟩, 1, [⟨a, o, E, A2, c2'⟩], rfl, ⟨?_, rm.out, fun x hx => ?_⟩, ⟨fun k hk => by simp [blk] at hk; omega, HNW.out, HCP.out⟩, (HI1.out.keep hch2.out (by simp)).keep q4.out (by simp), (q1.trans hch2.out (by simp)).trans q4.out (by simp)⟩
      · show Hid ([(a, o, E)] = [(a, o, ackB o q)])
        unfold Hid ackB
        rw [hE.out]
      · obtain rfl := List.mem_singleton.1 hx
        exact r2.keep0 q4.out

theorem cMg_get : ∀ {l : List MgV} {k : Nat} (hk : k < l.length) {j : Nat} (hj : j < 3), (cMg l)[k * 3 + j]? = (l[k].cells)[j]?
  | a :: l, 0, _, j, hj => by
    show (a.cells ++ cMg l)[0 * 3 + j]? = _
    rw [Nat.zero_mul, Nat.zero_add, List.getElem?_append_left (by exact hj)]; rfl
  | a :: l, k + 1, hk, j, hj => by
    show (a.cells ++ cMg l)[(k + 1) * 3 + j]? = _
    rw [List.getElem?_append_right (by show 3 ≤ _; omega)]
    have e : (k + 1) * 3 + j - a.cells.length = k * 3 + j := by show (k + 1) * 3 + j - 3 = _; omega
    rw [e, cMg_get (by simpa using hk) hj]; rfl
theorem Rd.getM {w : World} {A : Option Addr} {n : Nat} {l : List MgV} (h : Rd w 3 A n (cMg l)) {k : Nat} (hk : k < l.length) :
    ∃ ad, A = some ad ∧ ad.block < w.heap.size ∧ w.cell? (ad.add (k * 3)) = some (.int .i64 l[k].f) ∧ w.cell? ⟨(ad.add (k * 3)).block, (ad.add (k * 3)).off + 1, none⟩ = some (.int .i64 l[k].t) ∧ w.cell? ⟨(ad.add (k * 3)).block, (ad.add (k * 3)).off + 2, none⟩ = some (.slice l[k].A l[k].d.length l[k].cp) := by
  have hn : n = l.length := by have := h.len; rw [cMg_len] at this; omega
  obtain ⟨ad, e, hb, hc⟩ := h.at_ (by omega)
  have hj : ∀ j u, 0 < j → j < 3 → (l[k].cells)[j]? = some u → w.cell? ⟨(ad.add (k * 3)).block, (ad.add (k * 3)).off + j, none⟩ = some u := fun j u hj hj3 hu => by
    have h1 := hc (k * 3 + j) u (by rw [cMg_get hk hj3]; exact hu)
    rw [← add_add] at h1
    unfold Addr.add at h1
    rw [if_neg (show ¬ j = 0 by omega)] at h1
    exact h1
  exact ⟨ad, e, hb, hc _ _ (by have := cMg_get hk (j := 0) (by omega); rw [Nat.add_zero] at this; rw [this]; rfl), hj 1 _ (by omega) (by omega) rfl, hj 2 _ (by omega) (by omega) rfl⟩

set_option linter.unusedSimpArgs false
set_option maxRecDepth 100000 in
set_option maxHeartbeats 64000000 in
theorem messages_yes (w : World) (A B : Option Addr) (n m c d : Nat) (xs ys : List MgV) (l : List (Int × Int × List UInt8)) (hn : xs.length = n) (hm : ys.length = m) (hx : MsgsAt w A xs l) (hy : MsgsAt w B ys l) (hl : l.length ≤ 1000000) (hld : ∀ x ∈ l, x.2.2.length ≤ 1000000) :
    Calls Try.prog 17 #[.slice A n c, .slice B m d] w fun e w' => e = .returned (.bool true) ∧ Chg [] w w' := by
  subst hn hm
  obtain ⟨HX, rx, hxs⟩ := hx
  obtain ⟨HY, ry, hys⟩ := hy
  have hlen : xs.length = ys.length := by
    have h1 := congrArg List.length HX.out
    have h2 := congrArg List.length HY.out
    rw [List.length_map] at h1 h2
    omega
  have hlx : xs.length ≤ 1000000 := by
    have h1 := congrArg List.length HX.out
    rw [List.length_map] at h1
    omega
  have HE : Hid (∀ k (h1 : k < xs.length) (h2 : k < ys.length), xs[k].p = ys[k].p ∧ xs[k].d.length ≤ 1000000) := fun k h1 h2 => by
    have e1 : xs.map MgV.p = ys.map MgV.p := HX.out.trans HY.out.symm
    have e2 := congrArg (fun l => l[k]?) e1
    simp only [List.getElem?_map, List.getElem?_eq_getElem h1, List.getElem?_eq_getElem h2, Option.map_some, Option.some.injEq] at e2
    refine ⟨e2, ?_⟩
    have e3 : xs[k].p ∈ l := by rw [← HX.out]; exact List.mem_map_of_mem (List.getElem_mem h1)
    exact hld _ e3
  have RX := Lib.hid rx
  have RY := Lib.hid ry
  have HXS := Lib.hid hxs
  have HYS := Lib.hid hys
  have hb : ((xs.length : Int) != (ys.length : Int)) = false := by rw [hlen]; simp
  have Hlen := Lib.hid hlen
  clear rx ry hxs hys hlen HX HY
  go_enter Try.func17, Try.ntmps17
  go_wp2_with (fail)
  clear hb
  go_loopw [5] (fun i wr => ∃ k : Nat, k ≤ xs.length ∧ i = .int .i64 k ∧ Hid (Chg [] w wr)) (fun i _ => xs.length - (intOf i).toNat)
  case atStart => exact ⟨0, Nat.zero_le _, rfl, Chg.refl _ _⟩
  case round =>
    obtain ⟨k, hk, rfl, hch⟩ := hrel
    by_cases hlt : k < xs.length
    · have hlt2 : k < ys.length := by have := Hlen.out; omega
      obtain ⟨ad, rfl, had, hx0, hx1, hx2⟩ := (RX.out.keep0 hch.out).getM hlt
      obtain ⟨ad2, rfl, had2, hy0, hy1, hy2⟩ := (RY.out.keep0 hch.out).getM hlt2
      have HX1 : Hid (Rd wr 1 xs[k].A xs[k].d.length (cB xs[k].d)) := (HXS.out _ (List.getElem_mem hlt)).keep0 hch.out
      have HY1 : Hid (Rd wr 1 ys[k].A ys[k].d.length (cB ys[k].d)) := (HYS.out _ (List.getElem_mem hlt2)).keep0 hch.out
      obtain ⟨hp, hxl0⟩ := HE.out k hlt hlt2
      generalize xs[k] = x at *
      generalize ys[k] = y at *
      obtain ⟨xf, xt, xd, xA, xc⟩ := x
      obtain ⟨yf, yt, yd, yA, yc⟩ := y
      simp only [MgV.p, Prod.mk.injEq] at hp
      obtain ⟨rfl, rfl, rfl⟩ := hp
      simp only at hx0 hx1 hx2 hy0 hy1 hy2 HX1 HY1 hxl0
      have hxl : xd.length ≤ 140737488355328 := by omega
      have hki : (k : Int) < (xs.length : Int) := by omega
      have hki2 : (k : Int) < (ys.length : Int) := by omega
      have KK : Hid (∀ w', Chg [] wr w' → w'.cell? (ad.add (k * 3)) = some (.int .i64 xf) ∧ w'.cell? ⟨(ad.add (k * 3)).block, (ad.add (k * 3)).off + 1, none⟩ = some (.int .i64 xt) ∧ w'.cell? ⟨(ad.add (k * 3)).block, (ad.add (k * 3)).off + 2, none⟩ = some (.slice xA xd.length xc) ∧ w'.cell? (ad2.add (k * 3)) = some (.int .i64 xf) ∧ w'.cell? ⟨(ad2.add (k * 3)).block, (ad2.add (k * 3)).off + 1, none⟩ = some (.int .i64 xt) ∧ w'.cell? ⟨(ad2.add (k * 3)).block, (ad2.add (k * 3)).off + 2, none⟩ = some (.slice yA xd.length yc)) := fun w' hc => ⟨(hc.cell (by rw [add_block]; exact had) (by simp)).trans hx0, (hc.cell (p := ⟨(ad.add (k * 3)).block, (ad.add (k * 3)).off + 1, none⟩) (by show (ad.add (k * 3)).block < _; rw [add_block]; exact had) (by simp)).trans hx1, (hc.cell (p := ⟨(ad.add (k * 3)).block, (ad.add (k * 3)).off + 2, none⟩) (by show (ad.add (k * 3)).block < _; rw [add_block]; exact had) (by simp)).trans hx2, (hc.cell (by rw [add_block]; exact had2) (by simp)).trans hy0, (hc.cell (p := ⟨(ad2.add (k * 3)).block, (ad2.add (k * 3)).off + 1, none⟩) (by show (ad2.add (k * 3)).block < _; rw [add_block]; exact had2) (by simp)).trans hy1, (hc.cell (p := ⟨(ad2.add (k * 3)).block, (ad2.add (k * 3)).off + 2, none⟩) (by show (ad2.add (k * 3)).block < _; rw [add_block]; exact had2) (by simp)).trans hy2⟩
      clear hx0 hx1 hx2 hy0 hy1 hy2
      go_wp2_with (fail)
      refine wp_region_held_drew (S := fun w' => w'.cell? (ad.add (k * 3)) = some (.int .i64 xf) ∧ w'.cell? ⟨(ad.add (k * 3)).block, (ad.add (k * 3)).off + 1, none⟩ = some (.int .i64 xt) ∧ w'.cell? ⟨(ad.add (k * 3)).block, (ad.add (k * 3)).off + 2, none⟩ = some (.slice xA xd.length xc) ∧ w'.cell? (ad2.add (k * 3)) = some (.int .i64 xf) ∧ w'.cell? ⟨(ad2.add (k * 3)).block, (ad2.add (k * 3)).off + 1, none⟩ = some (.int .i64 xt) ∧ w'.cell? ⟨(ad2.add (k * 3)).block, (ad2.add (k * 3)).off + 2, none⟩ = some (.slice yA xd.length yc)) (by kernel_rfl) ?_ (fun hHeld => ?_)
      · exact KK.out _ ((Chg.refl [] wr).drewN 1)
      refine takeW (i := 0) (d := (some 17)) (v := ?_) rfl rfl (by kernel_rfl) (by kernel_rfl) (by kernel_rfl) (fun _ _ _ h => h) (by rfl) ?_ (by assumption) ?_
      rotate_left
      · intro w' hSw; (try dsimp only at hSw); go_simp; try with_reducible rfl
      try simp only [Act.put, List.setIfInBounds_toArray, List.set_cons_zero, List.set_cons_succ]
      refine takeW (i := 1) (d := (some 18)) (v := ?_) rfl rfl (by kernel_rfl) (by kernel_rfl) (by kernel_rfl) (fun _ _ _ h => h) (by rfl) ?_ (by assumption) ?_
      rotate_left
      · intro w' hSw; (try dsimp only at hSw); go_simp; try with_reducible rfl
      try simp only [Act.put, List.setIfInBounds_toArray, List.set_cons_zero, List.set_cons_succ]
      refine takeW (i := 2) (d := (some 19)) (v := ?_) rfl rfl (by kernel_rfl) (by kernel_rfl) (by kernel_rfl) (fun _ _ _ h => h) (by rfl) ?_ (by assumption) ?_
      rotate_left
      · intro w' hSw; (try dsimp only at hSw); go_simp; try with_reducible rfl
      try simp only [Act.put, List.setIfInBounds_toArray, List.set_cons_zero, List.set_cons_succ]
      refine takeW (i := 3) (d := (some 20)) (v := ?_) rfl rfl (by kernel_rfl) (by kernel_rfl) (by kernel_rfl) (fun _ _ _ h => h) (by rfl) ?_ (by assumption) ?_
      rotate_left
      · intro w' hSw; (try dsimp only at hSw); go_simp; try with_reducible rfl
      try simp only [Act.put, List.setIfInBounds_toArray, List.set_cons_zero, List.set_cons_succ]
      refine takeW (i := 4) (d := (some 21)) (v := ?_) rfl rfl (by kernel_rfl) (by kernel_rfl) (by kernel_rfl) (fun _ _ _ h => h) (by rfl) ?_ (by assumption) ?_
      rotate_left
      · intro w' hSw; (try dsimp only at hSw); go_simp; try with_reducible rfl
      try simp only [Act.put, List.setIfInBounds_toArray, List.set_cons_zero, List.set_cons_succ]
      refine takeW (i := 5) (d := (some 22)) (v := ?_) rfl rfl (by kernel_rfl) (by kernel_rfl) (by kernel_rfl) (fun _ _ _ h => h) (by rfl) ?_ (by assumption) ?_
      rotate_left
      · intro w' hSw; (try dsimp only at hSw); go_simp; try with_reducible rfl
      try simp only [Act.put, List.setIfInBounds_toArray, List.set_cons_zero, List.set_cons_succ]
      refine takeW (i := 6) (d := (some 23)) (v := ?_) rfl rfl (by kernel_rfl) (by kernel_rfl) (by kernel_rfl) (fun _ _ _ h => h) (by rfl) ?_ (by assumption) ?_
      rotate_left
      · intro w' hSw; (try dsimp only at hSw); go_simp; try with_reducible rfl
      try simp only [Act.put, List.setIfInBounds_toArray, List.set_cons_zero, List.set_cons_succ]
      refine takeW (i := 7) (d := (some 24)) (v := ?_) rfl rfl (by kernel_rfl) (by kernel_rfl) (by kernel_rfl) (fun _ _ _ h => h) (by rfl) ?_ (by assumption) ?_
      rotate_left
      · intro w' hSw; (try dsimp only at hSw); go_simp; try with_reducible rfl
      try simp only [Act.put, List.setIfInBounds_toArray, List.set_cons_zero, List.set_cons_succ]
      refine takeW (i := 8) (d := (some 25)) (v := ?_) rfl rfl (by kernel_rfl) (by kernel_rfl) (by kernel_rfl) (fun _ _ _ h => h) (by rfl) ?_ (by assumption) ?_
      rotate_left
      · intro w' hSw; (try dsimp only at hSw); go_simp; try with_reducible rfl
      try simp only [Act.put, List.setIfInBounds_toArray, List.set_cons_zero, List.set_cons_succ]
      refine takeW (i := 9) (d := (some 26)) (v := ?_) rfl rfl (by kernel_rfl) (by kernel_rfl) (by kernel_rfl) (fun _ _ _ h => h) (by rfl) ?_ (by assumption) ?_
      rotate_left
      · intro w' hSw; (try dsimp only at hSw); go_simp; try with_reducible rfl
      try simp only [Act.put, List.setIfInBounds_toArray, List.set_cons_zero, List.set_cons_succ]
      refine takeW (i := 10) (d := (some 27)) (v := ?_) rfl rfl (by kernel_rfl) (by kernel_rfl) (by kernel_rfl) (fun _ _ _ h => h) (by rfl) ?_ (by assumption) ?_
      rotate_left
      · intro w' hSw; (try dsimp only at hSw); go_simp; try with_reducible rfl
      try simp only [Act.put, List.setIfInBounds_toArray, List.set_cons_zero, List.set_cons_succ]
      refine takeW (i := 11) (d := (some 28)) (v := ?_) rfl rfl (by kernel_rfl) (by kernel_rfl) (by kernel_rfl) (fun _ _ _ h => h) (by rfl) ?_ (by assumption) ?_
      rotate_left
      · intro w' hSw; (try dsimp only at hSw); go_simp; try with_reducible rfl
      try simp only [Act.put, List.setIfInBounds_toArray, List.set_cons_zero, List.set_cons_succ]
      refine takeW (i := 12) (d := (some 29)) (v := ?_) rfl rfl (by kernel_rfl) (by kernel_rfl) (by kernel_rfl) (fun _ _ _ h => h) (by rfl) ?_ (by assumption) ?_
      rotate_left
      · intro w' hSw; (try dsimp only at hSw); go_simp; try with_reducible rfl
      try simp only [Act.put, List.setIfInBounds_toArray, List.set_cons_zero, List.set_cons_succ]
      refine takeW (i := 13) (d := (some 30)) (v := ?_) rfl rfl (by kernel_rfl) (by kernel_rfl) (by kernel_rfl) (fun _ _ _ h => h) (by rfl) ?_ (by assumption) ?_
      rotate_left
      · intro w' hSw; (try dsimp only at hSw); go_simp; try with_reducible rfl
      try simp only [Act.put, List.setIfInBounds_toArray, List.set_cons_zero, List.set_cons_succ]
      refine takeW (i := 14) (d := (some 31)) (v := ?_) rfl rfl (by kernel_rfl) (by kernel_rfl) (by kernel_rfl) (fun _ _ _ h => h) (by rfl) ?_ (by assumption) ?_
      rotate_left
      · intro w' hSw; (try dsimp only at hSw); go_simp; try with_reducible rfl
      try simp only [Act.put, List.setIfInBounds_toArray, List.set_cons_zero, List.set_cons_succ]
      refine takeW (i := 15) (d := (some 32)) (v := ?_) rfl rfl (by kernel_rfl) (by kernel_rfl) (by kernel_rfl) (fun _ _ _ h => h) (by rfl) ?_ (by assumption) ?_
      rotate_left
      · intro w' hSw; (try dsimp only at hSw); go_simp; try with_reducible rfl
      try simp only [Act.put, List.setIfInBounds_toArray, List.set_cons_zero, List.set_cons_succ]
      refine takeW (i := 16) (d := (some 33)) (v := ?_) rfl rfl (by kernel_rfl) (by kernel_rfl) (by kernel_rfl) (fun _ _ _ h => h) (by rfl) ?_ (by assumption) ?_
      rotate_left
      · intro w' hSw; (try dsimp only at hSw); go_simp; try with_reducible rfl
      try simp only [Act.put, List.setIfInBounds_toArray, List.set_cons_zero, List.set_cons_succ]
      refine takeW (i := 17) (d := (some 34)) (v := ?_) rfl rfl (by kernel_rfl) (by kernel_rfl) (by kernel_rfl) (fun _ _ _ h => h) (by rfl) ?_ (by assumption) ?_
      rotate_left
      · intro w' hSw; (try dsimp only at hSw); go_simp; try with_reducible rfl
      try simp only [Act.put, List.setIfInBounds_toArray, List.set_cons_zero, List.set_cons_succ]
      refine takeW (i := 18) (d := (some 35)) (v := ?_) rfl rfl (by kernel_rfl) (by kernel_rfl) (by kernel_rfl) (fun _ _ _ h => h) (by rfl) ?_ (by assumption) ?_
      rotate_left
      · intro w' hSw; (try dsimp only at hSw); go_simp; try with_reducible rfl
      try simp only [Act.put, List.setIfInBounds_toArray, List.set_cons_zero, List.set_cons_succ]
      refine takeW (i := 19) (d := (some 36)) (v := ?_) rfl rfl (by kernel_rfl) (by kernel_rfl) (by kernel_rfl) (fun _ _ _ h => h) (by rfl) ?_ (by assumption) ?_
      rotate_left
      · intro w' hSw; (try dsimp only at hSw); go_simp; try with_reducible rfl
      try simp only [Act.put, List.setIfInBounds_toArray, List.set_cons_zero, List.set_cons_succ]
      refine takeW (i := 20) (d := (some 37)) (v := ?_) rfl rfl (by kernel_rfl) (by kernel_rfl) (by kernel_rfl) (fun _ _ _ h => h) (by rfl) ?_ (by assumption) ?_
      rotate_left
      · intro w' hSw; (try dsimp only at hSw); go_simp; try with_reducible rfl
      try simp only [Act.put, List.setIfInBounds_toArray, List.set_cons_zero, List.set_cons_succ]
      refine takeW (i := 21) (d := (some 38)) (v := ?_) rfl rfl (by kernel_rfl) (by kernel_rfl) (by kernel_rfl) (fun _ _ _ h => h) (by rfl) ?_ (by assumption) ?_
      rotate_left
      · intro w' hSw; (try dsimp only at hSw); go_simp; try with_reducible rfl
      try simp only [Act.put, List.setIfInBounds_toArray, List.set_cons_zero, List.set_cons_succ]
      refine takeW (i := 22) (d := (some 39)) (v := ?_) rfl rfl (by kernel_rfl) (by kernel_rfl) (by kernel_rfl) (fun _ _ _ h => h) (by rfl) ?_ (by assumption) ?_
      rotate_left
      · intro w' hSw; (try dsimp only at hSw); go_simp; try with_reducible rfl
      try simp only [Act.put, List.setIfInBounds_toArray, List.set_cons_zero, List.set_cons_succ]
      refine takeW (i := 23) (d := (some 40)) (v := ?_) rfl rfl (by kernel_rfl) (by kernel_rfl) (by kernel_rfl) (fun _ _ _ h => h) (by rfl) ?_ (by assumption) ?_
      rotate_left
      · intro w' hSw; (try dsimp only at hSw); go_simp; try with_reducible rfl
      try simp only [Act.put, List.setIfInBounds_toArray, List.set_cons_zero, List.set_cons_succ]
      refine takeW (i := 24) (d := (some 41)) (v := ?_) rfl rfl (by kernel_rfl) (by kernel_rfl) (by kernel_rfl) (fun _ _ _ h => h) (by rfl) ?_ (by assumption) ?_
      rotate_left
      · intro w' hSw; (try dsimp only at hSw); go_simp; try with_reducible rfl
      try simp only [Act.put, List.setIfInBounds_toArray, List.set_cons_zero, List.set_cons_succ]
      refine takeW (i := 25) (d := (some 42)) (v := ?_) rfl rfl (by kernel_rfl) (by kernel_rfl) (by kernel_rfl) (fun _ _ _ h => h) (by rfl) ?_ (by assumption) ?_
      rotate_left
      · intro w' hSw; (try dsimp only at hSw); go_simp; try with_reducible rfl
      try simp only [Act.put, List.setIfInBounds_toArray, List.set_cons_zero, List.set_cons_succ]
      refine takeW (i := 26) (d := (some 43)) (v := ?_) rfl rfl (by kernel_rfl) (by kernel_rfl) (by kernel_rfl) (fun _ _ _ h => h) (by rfl) ?_ (by assumption) ?_
      rotate_left
      · intro w' hSw; (try dsimp only at hSw); go_simp; try with_reducible rfl
      try simp only [Act.put, List.setIfInBounds_toArray, List.set_cons_zero, List.set_cons_succ]
      refine takeW (i := 27) (d := (some 44)) (v := ?_) rfl rfl (by kernel_rfl) (by kernel_rfl) (by kernel_rfl) (fun _ _ _ h => h) (by rfl) ?_ (by assumption) ?_
      rotate_left
      · intro w' hSw; (try dsimp only at hSw); go_simp; try with_reducible rfl
      try simp only [Act.put, List.setIfInBounds_toArray, List.set_cons_zero, List.set_cons_succ]
      refine takeW (i := 28) (d := (some 45)) (v := ?_) rfl rfl (by kernel_rfl) (by kernel_rfl) (by kernel_rfl) (fun _ _ _ h => h) (by rfl) ?_ (by assumption) ?_
      rotate_left
      · intro w' hSw; (try dsimp only at hSw); go_simp; try with_reducible rfl
      try simp only [Act.put, List.setIfInBounds_toArray, List.set_cons_zero, List.set_cons_succ]
      refine takeW (i := 29) (d := (some 46)) (v := ?_) rfl rfl (by kernel_rfl) (by kernel_rfl) (by kernel_rfl) (fun _ _ _ h => h) (by rfl) ?_ (by assumption) ?_
      rotate_left
      · intro w' hSw; (try dsimp only at hSw); go_simp; try with_reducible rfl
      try simp only [Act.put, List.setIfInBounds_toArray, List.set_cons_zero, List.set_cons_succ]
      refine takeW (i := 30) (d := (some 47)) (v := ?_) rfl rfl (by kernel_rfl) (by kernel_rfl) (by kernel_rfl) (fun _ _ _ h => h) (by rfl) ?_ (by assumption) ?_
      rotate_left
      · intro w' hSw; (try dsimp only at hSw); go_simp; try with_reducible rfl
      try simp only [Act.put, List.setIfInBounds_toArray, List.set_cons_zero, List.set_cons_succ]
      refine takeW (i := 31) (d := (some 48)) (v := ?_) rfl rfl (by kernel_rfl) (by kernel_rfl) (by kernel_rfl) (fun _ _ _ h => h) (by rfl) ?_ (by assumption) ?_
      rotate_left
      · intro w' hSw; (try dsimp only at hSw); go_simp; try with_reducible rfl
      try simp only [Act.put, List.setIfInBounds_toArray, List.set_cons_zero, List.set_cons_succ]
      refine takeW (i := 32) (d := (some 49)) (v := ?_) rfl rfl (by kernel_rfl) (by kernel_rfl) (by kernel_rfl) (fun _ _ _ h => h) (by rfl) ?_ (by assumption) ?_
      rotate_left
      · intro w' hSw; (try dsimp only at hSw); go_simp; try with_reducible rfl
      try simp only [Act.put, List.setIfInBounds_toArray, List.set_cons_zero, List.set_cons_succ]
      refine takeW (i := 33) (d := (some 50)) (v := ?_) rfl rfl (by kernel_rfl) (by kernel_rfl) (by kernel_rfl) (fun _ _ _ h => h) (by rfl) ?_ (by assumption) ?_
      rotate_left
      · intro w' hSw; (try dsimp only at hSw); go_simp; try with_reducible rfl
      try simp only [Act.put, List.setIfInBounds_toArray, List.set_cons_zero, List.set_cons_succ]
      refine takeW (i := 34) (d := (some 51)) (v := ?_) rfl rfl (by kernel_rfl) (by kernel_rfl) (by kernel_rfl) (fun _ _ _ h => h) (by rfl) ?_ (by assumption) ?_
      rotate_left
      · intro w' hSw; (try dsimp only at hSw); go_simp; try with_reducible rfl
      try simp only [Act.put, List.setIfInBounds_toArray, List.set_cons_zero, List.set_cons_succ]
      refine wpAnyH_ready (rs := [35]) (by kernel_rfl) (by simp) ?_
      refine AllReadyH.cons rfl (fun K hK => ?_) AllReadyH.nil
      go_simp
      go_at_call 41
      (with_reducible refine (same_self _ xA yA _ _ xc yc xd rfl rfl (Rd.k0 HX1.out (by repeat' (first | (with_reducible assumption) | (with_reducible exact Chg.refl _ _) | (with_reducible refine Chg.alloc ?_ _) | (with_reducible refine Chg.drewN ?_ _) | (with_reducible refine Chg.drew ?_) | (with_reducible refine Chg.strW ?_ _ _) | (with_reducible refine Chg.t0 ?_ (by with_reducible assumption))))) (Rd.k0 HY1.out (by repeat' (first | (with_reducible assumption) | (with_reducible exact Chg.refl _ _) | (with_reducible refine Chg.alloc ?_ _) | (with_reducible refine Chg.drewN ?_ _) | (with_reducible refine Chg.drew ?_) | (with_reducible refine Chg.strW ?_ _ _) | (with_reducible refine Chg.t0 ?_ (by with_reducible assumption))))) hxl).mono ?_)
      rintro e w3 ⟨rfl, hch3⟩
      have hch23 : Hid (Chg [] wr w3) := ((by repeat' (first | (with_reducible assumption) | (with_reducible exact Chg.refl _ _) | (with_reducible refine Chg.alloc ?_ _) | (with_reducible refine Chg.drewN ?_ _) | (with_reducible refine Chg.drew ?_) | (with_reducible refine Chg.strW ?_ _ _) | (with_reducible refine Chg.t0 ?_ (by with_reducible assumption)))) : Chg [] wr w3)
      go_wp2_with (fail)
      refine hK.out _ _ ?_ (fun hHeld => ?_)
      · first | exact KK.out _ hch23.out | (dsimp only; exact KK.out _ hch23.out)
      clear hK K
      try simp only [Act.put, List.setIfInBounds_toArray, List.set_cons_zero, List.set_cons_succ]
      refine takeW (i := 36) (d := (some 53)) (v := ?_) rfl rfl (by kernel_rfl) (by kernel_rfl) (by kernel_rfl) (fun _ _ _ h => h) (by rfl) ?_ (by assumption) ?_
      rotate_left
      · intro w' hSw; (try dsimp only at hSw); go_simp; try with_reducible rfl
      try simp only [Act.put, List.setIfInBounds_toArray, List.set_cons_zero, List.set_cons_succ]
      refine takeW (i := 37) (d := (some 54)) (v := ?_) rfl rfl (by kernel_rfl) (by kernel_rfl) (by kernel_rfl) (fun _ _ _ h => h) (by rfl) ?_ (by assumption) ?_
      rotate_left
      · intro w' hSw; (try dsimp only at hSw); go_simp; try with_reducible rfl
      try simp only [Act.put, List.setIfInBounds_toArray, List.set_cons_zero, List.set_cons_succ]
      refine wpAnyH_done (by kernel_rfl) ?_ _
      go_wp2_with (fail)
      go_roundw
      case rel => exact ⟨k + 1, by omega, by go_num, hch.out.trans hch23.out (by simp)⟩
      case measure => simp [intOf]; omega
    · obtain rfl : k = xs.length := by omega
      go_wp2_with (fail)
      go_ret
      exact ⟨rfl, hch.out⟩
end Go.Proofs.Ytdfkednggjelcaa
