
/-
  net: bytes.Clone, lays.
-/
import Derived.Test.YtbgdcplbekoemaaNetW
import Derived.Test.YtbgdcplbekoemaaKeep
import Derived.Deep.RegionHeld3
import Derived.Deep.DeepCutAuto
import Derived.Test.YtbgdcplbekoemaaTake
namespace Go.Proofs.Ytbgdcplbekoemaa
open Go.RowKit
set_option linter.unusedVariables false

theorem info_u8n : (Try.prog.info? 5).map (fun i => (i.zero, i.size, i.bytes)) = some (some (.int .u8 0), 1, 1) := by kernel_rfl
theorem own_ne1 {w : World} {b b' : Nat} {e e' : TypeId} {s s' n n' : Nat} {v v' : Value} {xs ys : List Value} (h : w.ownsRow b e s v n xs) (h' : w.ownsRow b' e' s' v' n' ys) (hne : e ≠ e') : ∀ k, v.ownBlock = some k → v'.ownBlock ≠ some k := by
  intro k hk hk'
  rcases h'.2 with ⟨rfl, _⟩ | ⟨g, cap, cur, rfl, _, hh, _⟩
  · simp [Value.ownBlock] at hk'
  · simp [Value.ownBlock] at hk'
    subst hk'
    exact own_at_ne h (g := g) (t := e') (cs := cur) hh hne g hk rfl
def ClonePost (w : World) (L : List UInt8) (e : Ending) (w' : World) : Prop := ∃ A c, e = .returned (.slice A L.length c) ∧ w'.ownsRow w.heap.size 5 1 (.slice A L.length c) L.length (cB L) ∧ Chg [] w w'
set_option maxHeartbeats 3200000 in
theorem cloneN_any (w : World) (A : Option Addr) (n c : Nat) (L : List UInt8) (hn : L.length = n) (hr : Rd w 1 A L.length (cB L)) (hl : L.length ≤ 1099511627776) (hnil : A = none → c = 0) :
    Calls Try.prog 38 #[.slice A n c] w (ClonePost w L) := by
  subst hn
  obtain ⟨i0, hi, hz0, hz1, hz2⟩ := info_parts info_u8n
  cases A with
  | none =>
    have hL : L = [] := by
      cases L with
      | nil => rfl
      | cons a l => obtain ⟨ad, h, _⟩ := hr.at_ (by simp); cases h
    subst hL
    obtain rfl := hnil rfl
    have he : ∀ w : World, (binOp .eql 33 (.slice none 0 0) (.slice none 0 0)).run Try.prog w = .ok (.bool true) w := fun _ => rfl
    go_enter Try.func38, Try.ntmps38
    go_wp2_with (fail)
    go_ret
    exact ⟨none, 0, rfl, own_none _ _ _ _, Chg.refl _ _⟩
  | some ad =>
    have HR := Lib.hid hr
    clear hr hnil
    have he : ∀ w : World, (binOp .eql 33 (.slice (some ad) L.length c) (.slice none 0 0)).run Try.prog w = .ok (.bool false) w := fun _ => rfl
    go_enter Try.func38, Try.ntmps38
    go_wp2_with (at_builtin; refine wpList_append_rd _ rfl (.tmp 5) (.tmp 6) 33 (by rfl) w.heap.size 5 i0 _ 1 1 Try.underlying33 hi hz0 hz1 hz2 rfl (by omega) (.slice (some ⟨w.heap.size, 0, none⟩) 0 0) 0 [] (by rfl) (World.ownsRow_made w #[] 0 (Nat.le_refl _) (by simp [maxLen]) rfl) (some ad) L.length c (cB L) (by rfl) (HR.out.alloc _) (cB_one _) (by unfold maxLen; omega) (by omega) (by simp) ?_; intro A2 c2 w2 hown2 hgr2 hb2; simp only [Nat.zero_add, List.nil_append] at hown2)
    go_ret
    exact ⟨A2, c2, rfl, hown2, ((Chg.refl [] _).alloc _).grown hgr2 (fun k hk => .inr (by simp [Value.ownBlock] at hk; omega))⟩

/-- A message finds a place, or not. -/
def LaysPost (w0 : World) (gn : Nat) (A : Option Addr) (ms : List UdV) (x : UdV) (w : World) (e : Ending) (w' : World) : Prop :=
  ∃ A' c B c2, e = .returned (.bool true) ∧ NetH w0 w' gn A' c (ms ++ [⟨x.f, x.t, x.d, B, c2, x.sp⟩]) ∧ Chg (gn :: blk A) w w' ∧ (∀ j ∈ blk A', j ∈ blk A ∨ w.heap.size ≤ j) ∧ (∀ j ∈ blk B, w.heap.size ≤ j)
theorem lays_full (w0 w : World) (gn : Nat) (A : Option Addr) (c : Nat) (ms : List UdV) (h : NetH w0 w gn A c ms) (hl : 1024 ≤ ms.length) (hl2 : ms.length ≤ 1000000) (mf mt : Int) (B : Option Addr) (n c2 : Nat) (msp : Bool) :
    Calls Try.prog 24 #[.pointer (some ⟨gn, 0, none⟩), .agg #[.int .i64 mf, .int .i64 mt, .slice B n c2, .bool msp]] w fun e w' => e = .returned (.bool false) ∧ Chg [] w w' := by
  have c0 : (w.alloc (.cells #[.int .i64 mf, .int .i64 mt, .slice B n c2, .bool msp] 59)).cell? ⟨gn, 0, none⟩ = some (.slice A ms.length c) := ((h.at_.al (.cells #[.int .i64 mf, .int .i64 mt, .slice B n c2, .bool msp] 59)).cell 0).trans rfl
  have hli : ¬ (ms.length : Int) < 1024 := by omega
  have hlb : decide ((1024 : Int) ≤ (ms.length : Int)) = true := decide_eq_true (by omega)
  go_enter Try.func24, Try.ntmps24
  go_wp2_with (fail)
  go_ret
  exact ⟨rfl, (Chg.refl _ _).alloc _⟩
set_option linter.unusedSimpArgs false
set_option maxRecDepth 100000 in
set_option maxHeartbeats 6400000 in
theorem lays_yes (w0 w : World) (gn : Nat) (A : Option Addr) (c : Nat) (ms : List UdV) (h : NetH w0 w gn A c ms) (hl : ms.length < 1024) (mf mt : Int) (d : List UInt8) (B : Option Addr) (n c2 : Nat) (msp : Bool) (hn : d.length = n) (hr : Rd w 1 B d.length (cB d)) (hdl : d.length ≤ 1099511627776) (hnil : B = none → c2 = 0) :
    Calls Try.prog 24 #[.pointer (some ⟨gn, 0, none⟩), .agg #[.int .i64 mf, .int .i64 mt, .slice B n c2, .bool msp]] w (LaysPost w0 gn A ms ⟨mf, mt, d, B, c2, msp⟩ w) := by
  subst hn
  obtain ⟨i1, hi1, hy0, hy1, hy2⟩ := info_parts info_und
  have q0 := (Chg.refl [] w).alloc (.cells #[.int .i64 mf, .int .i64 mt, .slice B d.length c2, .bool msp] 59)
  have H0 := Lib.hid (h.keep q0)
  have b0 := At.new w 59 #[.int .i64 mf, .int .i64 mt, .slice B d.length c2, .bool msp]
  have c0 : (w.alloc (.cells #[.int .i64 mf, .int .i64 mt, .slice B d.length c2, .bool msp] 59)).cell? ⟨gn, 0, none⟩ = some (.slice A ms.length c) := (H0.out.at_.cell 0).trans rfl
  have HC := Lib.hid (cloneN_any (w.alloc (.cells #[.int .i64 mf, .int .i64 mt, .slice B d.length c2, .bool msp] 59)) B _ c2 d rfl (hr.alloc _) hdl hnil)
  have hli : (ms.length : Int) < 1024 := by omega
  have hlb : decide ((1024 : Int) ≤ (ms.length : Int)) = false := decide_eq_false (by omega)
  have hgnw : gn < w.heap.size := h.at_.lt
  have hs0 : w0.heap.size ≤ w.heap.size := h.chg.size
  have HH := Lib.hid h
  clear h hr
  go_enter Try.func24, Try.ntmps24
  go_wp2_with (fail)
  refine HC.out.mono ?_
  rintro e w1 ⟨B, c3, rfl, hown1, hch1⟩
  have H1 := Lib.hid (H0.out.keep hch1)
  have b1 := b0.keep hch1 (by simp)
  have f2 := b1.free 2
  have y2 := b1.cell 2
  have hc1 := q0.trans hch1 (by simp)
  have hs1 := hch1.size
  simp only [List.getElem?_toArray, List.getElem?_cons_zero, List.getElem?_cons_succ] at y2
  clear b0 c0 HC H0 hch1 q0
  go_upto_region 4 with (fail)
  have q2 : Chg [w.heap.size] w1 (w1.setCell ⟨w.heap.size, 2, none⟩ (.slice B d.length c3)) := (Chg.refl _ _).setCell (.inl (by simp)) _
  have b2 : Hid (At (w1.setCell ⟨w.heap.size, 2, none⟩ (.slice B d.length c3)) w.heap.size 59 #[.int .i64 mf, .int .i64 mt, .slice B d.length c3, .bool msp]) := by
    have h := b1.set_ 2 (.slice B d.length c3)
    simpa [Hid] using h
  have HZ : Hid (NetH w0 (w1.setCell ⟨w.heap.size, 2, none⟩ (.slice B d.length c3)) gn A c ms) := by
    refine ⟨H1.out.at_.keep q2 (by simp; omega), own_keep H1.out.row q2 (fun j hj hm => ?_), fun m hm => own_keep (H1.out.dat m hm) q2 (fun j hj hm2 => ?_), HH.out.new, H1.out.chg.trans q2 (by simp; omega)⟩
    · have := (HH.out.row.lt j hj).2; simp at hm; omega
    · have := ((HH.out.dat m hm).lt j hj).2; simp at hm2; omega
  have hA0 : ∀ j, (Value.slice A ms.length c).ownBlock = some j → j < w.heap.size := fun j hj => (HH.out.row.lt j hj).2
  have OB : Hid ((w1.setCell ⟨w.heap.size, 2, none⟩ (.slice B d.length c3)).ownsRow w0.heap.size 5 1 (.slice B d.length c3) d.length (cB d)) := own_up (own_keep hown1 q2 (fun j hj hm => by have := (hown1.lt j hj).1; simp at this hm; omega)) (by simp; omega)
  have HCZ : Hid (Chg [w.heap.size] w (w1.setCell ⟨w.heap.size, 2, none⟩ (.slice B d.length c3))) := (hc1.mono (by simp)).trans q2 (by simp)
  have HBB : Hid (∀ j ∈ blk B, w.heap.size ≤ j) := fun j hj => by have := (own_in hown1 j hj).1; simp at this; omega
  have hsz2 : w1.heap.size = (w1.setCell ⟨w.heap.size, 2, none⟩ (.slice B d.length c3)).heap.size := by simp [World.setCell]
  have hw1 : w.heap.size < w1.heap.size := by simp at hs1; omega
  rw [hsz2] at hw1
  clear H1 b1 f2 y2 hown1 q2 hc1 hs1 hsz2
  generalize w1.setCell ⟨w.heap.size, 2, none⟩ (.slice B d.length c3) = wz at *
  generalize hgb : w.heap.size = gb at *
  have KK : Hid (∀ w', Chg [] wz w' → w'.cell? ⟨gb, 0, none⟩ = some (.int .i64 mf) ∧ w'.cell? ⟨gb, 1, none⟩ = some (.int .i64 mt) ∧ w'.cell? ⟨gb, 2, none⟩ = some (.slice B d.length c3) ∧ w'.cell? ⟨gb, 3, none⟩ = some (.bool msp)) := fun w' hc => ⟨(b2.out.keep hc (by simp)).cell 0, (b2.out.keep hc (by simp)).cell 1, (b2.out.keep hc (by simp)).cell 2, (b2.out.keep hc (by simp)).cell 3⟩
  have HN : Hid (∀ w', Chg [] wz w' → w'.cell? ⟨gn, 0, none⟩ = some (.slice A ms.length c)) := fun w' hc => (HZ.out.at_.keep hc (by simp)).cell 0
  have cz := HN.out wz.drew ((Chg.refl [] _).drew)
  have cz' := HN.out wz (Chg.refl [] _)
  have cA := HN.out ((wz.alloc (.cells #[.int .i64 mf, .int .i64 mt, .slice B d.length c3, .bool msp] 59)).drew) (((Chg.refl [] _).alloc _).drew)
  have hgz : gn < wz.heap.size := HZ.out.at_.lt
  refine wp_region_held_drew (S := fun w' => w'.cell? ⟨gb, 0, none⟩ = some (.int .i64 mf) ∧ w'.cell? ⟨gb, 1, none⟩ = some (.int .i64 mt) ∧ w'.cell? ⟨gb, 2, none⟩ = some (.slice B d.length c3) ∧ w'.cell? ⟨gb, 3, none⟩ = some (.bool msp)) (by kernel_rfl) ?_ (fun hHeld => ?_)
  · exact KK.out _ (by repeat' (first | (with_reducible assumption) | (with_reducible exact Chg.refl _ _) | (with_reducible refine Chg.alloc ?_ _) | (with_reducible refine Chg.drewN ?_ _) | (with_reducible refine Chg.drew ?_) | (with_reducible refine Chg.strW ?_ _ _) | (with_reducible refine Chg.t0 ?_ (by with_reducible assumption))))
  refine takeW (i := 0) (d := (some 17)) (v := ?_) rfl rfl (by kernel_rfl) (by kernel_rfl) (by kernel_rfl) (fun _ _ _ h => h) (by rfl) ?_ (by assumption) ?_
  rotate_left
  · intro w' hSw; (try dsimp only at hSw); go_simp; try with_reducible rfl
  try simp only [Act.put, List.setIfInBounds_toArray, List.set_cons_zero, List.set_cons_succ]
  refine takeW (i := 1) (d := (some 18)) (v := ?_) rfl rfl (by kernel_rfl) (by kernel_rfl) (by kernel_rfl) (fun _ _ _ h => h) (by rfl) ?_ (by assumption) ?_
  rotate_left
  · intro w' hSw; (try dsimp only at hSw); go_simp; try with_reducible rfl
  try simp only [Act.put, List.setIfInBounds_toArray, List.set_cons_zero, List.set_cons_succ]
  refine takeW (i := 2) (d := (some 19)) (v := ?_) rfl rfl (by kernel_rfl) (by kernel_rfl) (by kernel_rfl) (fun _ _ _ h => h) (by rfl) ?_ (by assumption) ?_
  rotate_left
  · intro w' hSw; (try dsimp only at hSw); go_simp; try with_reducible rfl
  try simp only [Act.put, List.setIfInBounds_toArray, List.set_cons_zero, List.set_cons_succ]
  refine takeW (i := 3) (d := (some 20)) (v := ?_) rfl rfl (by kernel_rfl) (by kernel_rfl) (by kernel_rfl) (fun _ _ _ h => h) (by rfl) ?_ (by assumption) ?_
  rotate_left
  · intro w' hSw; (try dsimp only at hSw); go_simp; try with_reducible rfl
  try simp only [Act.put, List.setIfInBounds_toArray, List.set_cons_zero, List.set_cons_succ]
  refine takeW (i := 5) (d := (some 22)) (v := ?_) rfl rfl (by kernel_rfl) (by kernel_rfl) (by kernel_rfl) (fun _ _ _ h => h) (by rfl) ?_ (by assumption) ?_
  rotate_left
  · intro w' hSw; (try dsimp only at hSw); go_simp; try with_reducible rfl
  try simp only [Act.put, List.setIfInBounds_toArray, List.set_cons_zero, List.set_cons_succ]
  refine wpAnyH_ready (rs := [4, 6]) (by kernel_rfl) (by simp) ?_
  refine AllReadyH.cons rfl (fun K hK => ?_) (AllReadyH.cons rfl (fun K hK => ?_) AllReadyH.nil)
  · go_simp
    go_wp2_with (fail)
    refine hK.out _ _ ?_ (fun hHeld => ?_)
    · first | assumption | exact KK.out _ (by repeat' (first | (with_reducible assumption) | (with_reducible exact Chg.refl _ _) | (with_reducible refine Chg.alloc ?_ _) | (with_reducible refine Chg.drewN ?_ _) | (with_reducible refine Chg.drew ?_) | (with_reducible refine Chg.strW ?_ _ _) | (with_reducible refine Chg.t0 ?_ (by with_reducible assumption))))
    clear hK K
    try simp only [Act.put, List.setIfInBounds_toArray, List.set_cons_zero, List.set_cons_succ]
    refine wpAnyH_ready (rs := [6]) (by kernel_rfl) (by simp) ?_
    refine AllReadyH.cons rfl (fun K hK => ?_) AllReadyH.nil
    go_simp
    go_wp2_with (fail)
    refine hK.out _ _ ?_ (fun hHeld => ?_)
    · first | assumption | exact KK.out _ (by repeat' (first | (with_reducible assumption) | (with_reducible exact Chg.refl _ _) | (with_reducible refine Chg.alloc ?_ _) | (with_reducible refine Chg.drewN ?_ _) | (with_reducible refine Chg.drew ?_) | (with_reducible refine Chg.strW ?_ _ _) | (with_reducible refine Chg.t0 ?_ (by with_reducible assumption))))
    clear hK K
    try simp only [Act.put, List.setIfInBounds_toArray, List.set_cons_zero, List.set_cons_succ]
    refine wpAnyH_ready (rs := [7]) (by kernel_rfl) (by simp) ?_
    refine AllReadyH.cons rfl (fun K hK => ?_) AllReadyH.nil
    refine wp_append_rd _ (.tmp 21) (.tmp 23) 54 (by rfl) w0.heap.size 59 i1 _ 4 48 Try.underlying54 hi1 hy0 hy1 hy2 rfl (by omega) (.slice A ms.length c) ms.length (cUd ms) (by simp [Act.eval, Act.put]) (own_k0 HZ.out.row (((Chg.refl [] wz).alloc (.cells #[.int .i64 mf, .int .i64 mt, .slice B d.length c3, .bool msp] 59)).drew)) (some ⟨wz.heap.size, 0, none⟩) 1 1 (cUd [⟨mf, mt, d, B, c3, msp⟩]) (by simp [Act.eval, Act.put]) ((Rd.new' rfl rfl rfl : Rd (wz.alloc (.cells #[.int .i64 mf, .int .i64 mt, .slice B d.length c3, .bool msp] 59)) 4 (some ⟨wz.heap.size, 0, none⟩) 1 (cUd [⟨mf, mt, d, B, c3, msp⟩])).keep0 ((Chg.refl [] _).drew)) (cUd_one _) (by unfold maxLen; omega) (by omega) (by have := HZ.out.chg.size; simp; omega) ?_
    intro A6 c6 w6 hown6 hg6 hb6
    have g6 := Chg.of_grown hg6
    have qd : Chg [] wz ((wz.alloc (.cells #[.int .i64 mf, .int .i64 mt, .slice B d.length c3, .bool msp] 59)).drew) := ((Chg.refl [] wz).alloc _).drew
    have b6 := Lib.hid ((b2.out.keep qd (by simp)).keep g6 (fun hm => by simp only [Option.mem_toList] at hm; have := hA0 _ hm; omega))
    have n6 := (HZ.out.at_.keep qd (by simp)).keep g6 (fun hm => own_at_ne HZ.out.row HZ.out.at_ (by decide) gn (Option.mem_toList.1 hm) rfl)
    have fn6 := n6.free 0
    have cn6 := n6.cell 0
    simp only [List.getElem?_toArray, List.getElem?_cons_zero] at cn6
    have q10 : Chg [gn] w6 (w6.setCell ⟨gn, 0, none⟩ (.slice A6 (ms.length + 1) c6)) := (Chg.refl _ _).setCell (.inl (by simp)) _
    have b10 := Lib.hid (b6.out.keep q10 (by simp; omega))
    refine hK.out _ _ ?_ (fun hHeld => ?_)
    · exact ⟨b6.out.cell 0, b6.out.cell 1, b6.out.cell 2, b6.out.cell 3⟩
    clear hK K
    try simp only [Act.put, List.setIfInBounds_toArray, List.set_cons_zero, List.set_cons_succ]
    refine takeW (i := 8) (d := (some 25)) (v := ?_) rfl rfl (by kernel_rfl) (by kernel_rfl) (by kernel_rfl) (fun _ _ _ h => h) (by rfl) ?_ (by assumption) ?_
    rotate_left
    · intro w' hSw; (try dsimp only at hSw); go_simp; try with_reducible rfl
    try simp only [Act.put, List.setIfInBounds_toArray, List.set_cons_zero, List.set_cons_succ]
    refine takeW (i := 9) (d := (some 26)) (v := ?_) rfl rfl (by kernel_rfl) (by kernel_rfl) (by kernel_rfl) (fun _ _ _ h => h) (by rfl) ?_ (by assumption) ?_
    rotate_left
    · intro w' hSw; (try dsimp only at hSw); go_simp; try with_reducible rfl
    try simp only [Act.put, List.setIfInBounds_toArray, List.set_cons_zero, List.set_cons_succ]
    refine wpAnyH_ready (rs := [10]) (by kernel_rfl) (by simp) ?_
    refine AllReadyH.cons rfl (fun K hK => ?_) AllReadyH.nil
    go_simp
    go_wp2_with (fail)
    refine hK.out _ _ ?_ (fun hHeld => ?_)
    · exact ⟨b10.out.cell 0, b10.out.cell 1, b10.out.cell 2, b10.out.cell 3⟩
    clear hK K
    try simp only [Act.put, List.setIfInBounds_toArray, List.set_cons_zero, List.set_cons_succ]
    refine wpAnyH_done (by kernel_rfl) ?_ _
    go_wp2_with (fail)
    go_ret
    rw [← cUd_app] at hown6
    have n10 := n6.set_ 0 (.slice A6 (ms.length + 1) c6)
    have hA6 : ∀ j, (Value.slice A6 (ms.length + 1) c6).ownBlock = some j → j ∉ [gn] := fun j hj hm => own_at_ne hown6 n6 (by decide) j hj (by simpa using hm)
    have hdk : ∀ {u : Value} {k : Nat} {xs : List Value}, wz.ownsRow w0.heap.size 5 1 u k xs → (w6.setCell ⟨gn, 0, none⟩ (.slice A6 (ms.length + 1) c6)).ownsRow w0.heap.size 5 1 u k xs := fun h => own_keep (own_keep (own_k0 h qd) g6 (fun j hj hm => own_ne1 h HZ.out.row (by decide) j hj (Option.mem_toList.1 hm))) q10 (fun j hj hm => own_at_ne h HZ.out.at_ (by decide) j hj (by simpa using hm))
    refine ⟨A6, c6, B, c3, rfl, ⟨?_, ?_, fun m hm => ?_, HZ.out.new, ?_⟩, ?_, ?_, ?_⟩
    · rw [List.length_append]; simpa using n10
    · rw [List.length_append]; exact own_keep hown6 q10 hA6
    · rcases List.mem_append.1 hm with h | h
      · exact hdk (HZ.out.dat m h)
      · obtain rfl := List.mem_singleton.1 h
        exact hdk OB.out
    · exact ((HZ.out.chg.trans qd (by simp)).trans g6 (fun j hj => .inr (HZ.out.row.lt j (Option.mem_toList.1 hj)).1)).trans q10 (by have := HZ.out.new; simp; omega)
    · exact (((HCZ.out.trans qd (by simp)).mono (by simp [hgb])).trans g6 (fun j hj => .inl (List.mem_cons_of_mem _ (by rw [own_blk] at hj; exact hj)))).trans q10 (by simp)
    · intro j hj
      rcases hb6 with h | h
      · rw [h, own_blk] at hj; exact .inl hj
      · rw [h] at hj
        obtain rfl := List.mem_singleton.1 hj
        exact .inr (by have := qd.size; omega)
    · exact fun j hj => by have := HBB.out j hj; omega
  · go_simp
    go_wp2_with (fail)
    refine hK.out _ _ ?_ (fun hHeld => ?_)
    · first | assumption | exact KK.out _ (by repeat' (first | (with_reducible assumption) | (with_reducible exact Chg.refl _ _) | (with_reducible refine Chg.alloc ?_ _) | (with_reducible refine Chg.drewN ?_ _) | (with_reducible refine Chg.drew ?_) | (with_reducible refine Chg.strW ?_ _ _) | (with_reducible refine Chg.t0 ?_ (by with_reducible assumption))))
    clear hK K
    try simp only [Act.put, List.setIfInBounds_toArray, List.set_cons_zero, List.set_cons_succ]
    refine wpAnyH_ready (rs := [4]) (by kernel_rfl) (by simp) ?_
    refine AllReadyH.cons rfl (fun K hK => ?_) AllReadyH.nil
    go_simp
    go_wp2_with (fail)
    refine hK.out _ _ ?_ (fun hHeld => ?_)
    · first | assumption | exact KK.out _ (by repeat' (first | (with_reducible assumption) | (with_reducible exact Chg.refl _ _) | (with_reducible refine Chg.alloc ?_ _) | (with_reducible refine Chg.drewN ?_ _) | (with_reducible refine Chg.drew ?_) | (with_reducible refine Chg.strW ?_ _ _) | (with_reducible refine Chg.t0 ?_ (by with_reducible assumption))))
    clear hK K
    try simp only [Act.put, List.setIfInBounds_toArray, List.set_cons_zero, List.set_cons_succ]
    refine wpAnyH_ready (rs := [7]) (by kernel_rfl) (by simp) ?_
    refine AllReadyH.cons rfl (fun K hK => ?_) AllReadyH.nil
    refine wp_append_rd _ (.tmp 21) (.tmp 23) 54 (by rfl) w0.heap.size 59 i1 _ 4 48 Try.underlying54 hi1 hy0 hy1 hy2 rfl (by omega) (.slice A ms.length c) ms.length (cUd ms) (by simp [Act.eval, Act.put]) (own_k0 HZ.out.row (((Chg.refl [] wz).alloc (.cells #[.int .i64 mf, .int .i64 mt, .slice B d.length c3, .bool msp] 59)).drew)) (some ⟨wz.heap.size, 0, none⟩) 1 1 (cUd [⟨mf, mt, d, B, c3, msp⟩]) (by simp [Act.eval, Act.put]) ((Rd.new' rfl rfl rfl : Rd (wz.alloc (.cells #[.int .i64 mf, .int .i64 mt, .slice B d.length c3, .bool msp] 59)) 4 (some ⟨wz.heap.size, 0, none⟩) 1 (cUd [⟨mf, mt, d, B, c3, msp⟩])).keep0 ((Chg.refl [] _).drew)) (cUd_one _) (by unfold maxLen; omega) (by omega) (by have := HZ.out.chg.size; simp; omega) ?_
    intro A6 c6 w6 hown6 hg6 hb6
    have g6 := Chg.of_grown hg6
    have qd : Chg [] wz ((wz.alloc (.cells #[.int .i64 mf, .int .i64 mt, .slice B d.length c3, .bool msp] 59)).drew) := ((Chg.refl [] wz).alloc _).drew
    have b6 := Lib.hid ((b2.out.keep qd (by simp)).keep g6 (fun hm => by simp only [Option.mem_toList] at hm; have := hA0 _ hm; omega))
    have n6 := (HZ.out.at_.keep qd (by simp)).keep g6 (fun hm => own_at_ne HZ.out.row HZ.out.at_ (by decide) gn (Option.mem_toList.1 hm) rfl)
    have fn6 := n6.free 0
    have cn6 := n6.cell 0
    simp only [List.getElem?_toArray, List.getElem?_cons_zero] at cn6
    have q10 : Chg [gn] w6 (w6.setCell ⟨gn, 0, none⟩ (.slice A6 (ms.length + 1) c6)) := (Chg.refl _ _).setCell (.inl (by simp)) _
    have b10 := Lib.hid (b6.out.keep q10 (by simp; omega))
    refine hK.out _ _ ?_ (fun hHeld => ?_)
    · exact ⟨b6.out.cell 0, b6.out.cell 1, b6.out.cell 2, b6.out.cell 3⟩
    clear hK K
    try simp only [Act.put, List.setIfInBounds_toArray, List.set_cons_zero, List.set_cons_succ]
    refine takeW (i := 8) (d := (some 25)) (v := ?_) rfl rfl (by kernel_rfl) (by kernel_rfl) (by kernel_rfl) (fun _ _ _ h => h) (by rfl) ?_ (by assumption) ?_
    rotate_left
    · intro w' hSw; (try dsimp only at hSw); go_simp; try with_reducible rfl
    try simp only [Act.put, List.setIfInBounds_toArray, List.set_cons_zero, List.set_cons_succ]
    refine takeW (i := 9) (d := (some 26)) (v := ?_) rfl rfl (by kernel_rfl) (by kernel_rfl) (by kernel_rfl) (fun _ _ _ h => h) (by rfl) ?_ (by assumption) ?_
    rotate_left
    · intro w' hSw; (try dsimp only at hSw); go_simp; try with_reducible rfl
    try simp only [Act.put, List.setIfInBounds_toArray, List.set_cons_zero, List.set_cons_succ]
    refine wpAnyH_ready (rs := [10]) (by kernel_rfl) (by simp) ?_
    refine AllReadyH.cons rfl (fun K hK => ?_) AllReadyH.nil
    go_simp
    go_wp2_with (fail)
    refine hK.out _ _ ?_ (fun hHeld => ?_)
    · exact ⟨b10.out.cell 0, b10.out.cell 1, b10.out.cell 2, b10.out.cell 3⟩
    clear hK K
    try simp only [Act.put, List.setIfInBounds_toArray, List.set_cons_zero, List.set_cons_succ]
    refine wpAnyH_done (by kernel_rfl) ?_ _
    go_wp2_with (fail)
    go_ret
    rw [← cUd_app] at hown6
    have n10 := n6.set_ 0 (.slice A6 (ms.length + 1) c6)
    have hA6 : ∀ j, (Value.slice A6 (ms.length + 1) c6).ownBlock = some j → j ∉ [gn] := fun j hj hm => own_at_ne hown6 n6 (by decide) j hj (by simpa using hm)
    have hdk : ∀ {u : Value} {k : Nat} {xs : List Value}, wz.ownsRow w0.heap.size 5 1 u k xs → (w6.setCell ⟨gn, 0, none⟩ (.slice A6 (ms.length + 1) c6)).ownsRow w0.heap.size 5 1 u k xs := fun h => own_keep (own_keep (own_k0 h qd) g6 (fun j hj hm => own_ne1 h HZ.out.row (by decide) j hj (Option.mem_toList.1 hm))) q10 (fun j hj hm => own_at_ne h HZ.out.at_ (by decide) j hj (by simpa using hm))
    refine ⟨A6, c6, B, c3, rfl, ⟨?_, ?_, fun m hm => ?_, HZ.out.new, ?_⟩, ?_, ?_, ?_⟩
    · rw [List.length_append]; simpa using n10
    · rw [List.length_append]; exact own_keep hown6 q10 hA6
    · rcases List.mem_append.1 hm with h | h
      · exact hdk (HZ.out.dat m h)
      · obtain rfl := List.mem_singleton.1 h
        exact hdk OB.out
    · exact ((HZ.out.chg.trans qd (by simp)).trans g6 (fun j hj => .inr (HZ.out.row.lt j (Option.mem_toList.1 hj)).1)).trans q10 (by have := HZ.out.new; simp; omega)
    · exact (((HCZ.out.trans qd (by simp)).mono (by simp [hgb])).trans g6 (fun j hj => .inl (List.mem_cons_of_mem _ (by rw [own_blk] at hj; exact hj)))).trans q10 (by simp)
    · intro j hj
      rcases hb6 with h | h
      · rw [h, own_blk] at hj; exact .inl hj
      · rw [h] at hj
        obtain rfl := List.mem_singleton.1 hj
        exact .inr (by have := qd.size; omega)
    · exact fun j hj => by have := HBB.out j hj; omega
end Go.Proofs.Ytbgdcplbekoemaa
