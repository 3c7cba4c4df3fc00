
/-
  chain: a chain in memory; Put.
-/
import Derived.Test.YtmliclfepnebfaaChL
import Derived.Test.YtmliclfepnebfaaSep
namespace Go.Proofs.Ytmliclfepnebfaa
open Go.RowKit
set_option linter.unusedVariables false
set_option linter.unusedSimpArgs false
def datV (ms : List VrV) : List Nat := ms.flatMap fun m => blk m.A
def vsF (A : Option Addr) (ms : List VrV) : List Nat := blk A ++ datV ms
/-- A row of versions that has its memory for itself. -/
structure VsP (A : Option Addr) (c : Nat) (ms : List VrV) (w : World) : Prop where
  row : w.ownsRow 0 28 6 (.slice A ms.length c) ms.length (cVr ms)
  dat : ∀ m ∈ ms, w.ownsRow 0 5 1 (.slice m.A m.val.length m.cp) m.val.length (cB m.val)
def rVs (A : Option Addr) (c : Nat) (ms : List VrV) : Res := ⟨vsF A ms, VsP A c ms⟩
/-- A chain: a structure of one cell, and its versions. -/
structure ChP (T : TypeId) (gn : Nat) (A : Option Addr) (c : Nat) (ms : List VrV) (w : World) : Prop extends VsP A c ms w where
  at_ : At w gn T #[.slice A ms.length c]
def rCh (T : TypeId) (gn : Nat) (A : Option Addr) (c : Nat) (ms : List VrV) : Res := ⟨gn :: vsF A ms, ChP T gn A c ms⟩
theorem mem_datV {ms : List VrV} {m : VrV} (hm : m ∈ ms) {j : Nat} (hj : j ∈ blk m.A) : j ∈ datV ms := List.mem_flatMap.2 ⟨m, hm, hj⟩
theorem rVs_stable (w0 : World) (A : Option Addr) (c : Nat) (ms : List VrV) : Stable w0 (rVs A c ms) := fun w w' h hs hk =>
  ⟨own_stable h.row (fun b hb hm => hk b hb (.inl (List.mem_append_left _ hm))), fun m hm => own_stable (h.dat m hm) (fun b hb hj => hk b hb (.inl (List.mem_append_right _ (mem_datV hm hj))))⟩
theorem rCh_stable (w0 : World) (T : TypeId) (gn : Nat) (A : Option Addr) (c : Nat) (ms : List VrV) : Stable w0 (rCh T gn A c ms) := fun w w' h hs hk =>
  ⟨rVs_stable w0 A c ms w w' h.toVsP hs (fun b hb hm => hk b hb (hm.imp (List.mem_cons_of_mem _) id)), At.stable h.at_ (hk gn (At.lt h.at_) (.inl List.mem_cons_self))⟩
section
variable {w0 w w' : World} {T : TypeId} {gn : Nat} {A A' : Option Addr} {c c' : Nat} {ms ms' : List VrV} {rs : List Res}
theorem VsP.keep (h : VsP A c ms w) (hc : Chg [] w w') : VsP A c ms w' :=
  ⟨own_keep h.row hc (fun _ _ hm => by simp at hm), fun m hm => own_keep (h.dat m hm) hc (fun _ _ hm => by simp at hm)⟩
theorem ChP.keep (h : ChP T gn A c ms w) (hc : Chg [] w w') : ChP T gn A c ms w' := ⟨h.toVsP.keep hc, h.at_.keep hc (by simp)⟩
theorem VsP.apart (h : VsP A c ms w) : ∀ j ∈ blk A, j ∉ datV ms := fun j hj hd => by
  obtain ⟨m, hm, hj2⟩ := List.mem_flatMap.1 hd
  exact own_ne1 h.row (h.dat m hm) (by decide) j (ob _ _ _ _ hj) (ob _ _ _ _ hj2)
theorem VsP.lt (h : VsP A c ms w) : ∀ j ∈ vsF A ms, j < w.heap.size := fun j hj => by
  rcases List.mem_append.1 hj with h1 | h1
  · exact (own_in h.row j h1).2
  · obtain ⟨m, hm, hj⟩ := List.mem_flatMap.1 h1
    exact (own_in (h.dat m hm) j hj).2
theorem ChP.lt (h : ChP T gn A c ms w) : ∀ j ∈ gn :: vsF A ms, j < w.heap.size := fun j hj => by
  rcases List.mem_cons.1 hj with rfl | hj
  · exact h.at_.lt
  · exact h.toVsP.lt j hj
theorem ChP.ne (h : ChP T gn A c ms w) (hT : T ≠ 28) (hT2 : T ≠ 5) : gn ∉ vsF A ms := fun hm => by
  rcases List.mem_append.1 hm with h1 | h1
  · exact own_at_ne h.row h.at_ hT.symm gn (ob _ _ _ _ h1) rfl
  · obtain ⟨m, hm, hj⟩ := List.mem_flatMap.1 h1
    exact own_at_ne (h.dat m hm) h.at_ hT2.symm gn (ob _ _ _ _ hj) rfl
theorem ChP.nodup (h : ChP T gn A c ms w) (hT : T ≠ 28) (hT2 : T ≠ 5) (hd : (datV ms).Nodup) : (gn :: vsF A ms).Nodup :=
  List.nodup_cons.2 ⟨h.ne hT hT2, List.nodup_append.2 ⟨blk_nodup A, hd, fun a ha b hb hab => by subst hab; exact h.toVsP.apart a ha hb⟩⟩
theorem rCh_datV (h : All w0 w (rCh T gn A c ms :: rs)) : (datV ms).Nodup := by
  have hn := h.nodup
  simp only [List.map_cons, List.flatten_cons, List.nodup_append] at hn
  exact (List.nodup_append.1 (List.nodup_cons.1 hn.1).2).2.1
/-- The chain becomes another one. -/
theorem ChP.head (H : All w0 w (rCh T gn A c ms :: rs)) (hT : T ≠ 28) (hT2 : T ≠ 5) (hc : Chg (gn :: vsF A ms) w w') (h : ChP T gn A' c' ms' w') (hA : ∀ j ∈ vsF A' ms', j ∈ vsF A ms ∨ w.heap.size ≤ j) (hn : (datV ms').Nodup) : All w0 w' (rCh T gn A' c' ms' :: rs) := by
  refine H.head hc _ (fun b hb => ⟨?_, h.lt b hb⟩) (h.nodup hT hT2 hn) h (rCh_stable _ _ _ _ _ _)
  rcases List.mem_cons.1 hb with rfl | hb
  · exact .inl List.mem_cons_self
  · exact (hA b hb).imp (List.mem_cons_of_mem _) id
theorem datV_ins (ms : List VrV) (i : Nat) (x : VrV) : (datV (ms.take i ++ x :: ms.drop i)).Perm (datV ms ++ blk x.A) := by
  have h1 : datV (ms.take i ++ x :: ms.drop i) = datV (ms.take i) ++ (blk x.A ++ datV (ms.drop i)) := by simp [datV]
  have h2 : datV ms = datV (ms.take i) ++ datV (ms.drop i) := by
    have h3 : datV ms = datV (ms.take i ++ ms.drop i) := by rw [List.take_append_drop]
    rw [h3]; simp only [datV, List.flatMap_append]
  rw [h1, h2, List.append_assoc]
  exact (List.perm_append_comm).append_left _
end
/-- A chain with these versions, among other things. -/
def ChA (T : TypeId) (w0 w : World) (gn : Nat) (l : List VV) (rs : List Res) : Prop := ∃ A c ms, ms.map VrV.v = l ∧ All w0 w (rCh T gn A c ms :: rs)
theorem ch_ne : 65 ≠ 28 ∧ 65 ≠ 5 := by decide
def PutPost (T : TypeId) (gn : Nat) (A : Option Addr) (ms : List VrV) (x : VV) (w : World) (e : Ending) (w' : World) : Prop :=
  e = .returned (.int .i64 (putE (ms.map VrV.v) x)) ∧
  ((putE (ms.map VrV.v) x ≠ 0 ∧ Chg [] w w') ∨ (putE (ms.map VrV.v) x = 0 ∧ ∃ A' c' A5 c5, ChP T gn A' c' (ms.take (posV (ms.map VrV.v) x) ++ ⟨x.m, x.c, x.o, A5, x.d, c5, x.g, x.t⟩ :: ms.drop (posV (ms.map VrV.v) x)) w' ∧ Chg (gn :: blk A) w w' ∧ (∀ j ∈ blk A', j ∈ blk A ∨ w.heap.size ≤ j) ∧ ∀ j ∈ blk A5, w.heap.size ≤ j))
section
variable {T : TypeId} {gn : Nat} {A : Option Addr} {ms : List VrV} {x : VV} {w w' : World}
theorem PutPost.bad (h : isVV x = false) (hc : Chg [] w w') : PutPost T gn A ms x w (.returned (.int .i64 1)) w' := by
  have e : putE (ms.map VrV.v) x = 1 := by unfold putE; rw [if_pos h]
  exact ⟨by rw [e], .inl ⟨by rw [e]; decide, hc⟩⟩
theorem PutPost.has (h : isVV x = true) (h2 : hasV (ms.map VrV.v) x = true) (hc : Chg [] w w') : PutPost T gn A ms x w (.returned (.int .i64 8)) w' := by
  have e : putE (ms.map VrV.v) x = 8 := by unfold putE; rw [if_neg (by rw [h]; decide), if_pos h2]
  exact ⟨by rw [e], .inl ⟨by rw [e]; decide, hc⟩⟩
theorem PutPost.yes (h : isVV x = true) (h2 : hasV (ms.map VrV.v) x = false) {A' : Option Addr} {c' : Nat} {A5 : Option Addr} {c5 : Nat} (h3 : ChP T gn A' c' (ms.take (posV (ms.map VrV.v) x) ++ ⟨x.m, x.c, x.o, A5, x.d, c5, x.g, x.t⟩ :: ms.drop (posV (ms.map VrV.v) x)) w') (hc : Chg (gn :: blk A) w w') (hA : ∀ j ∈ blk A', j ∈ blk A ∨ w.heap.size ≤ j) (h5 : ∀ j ∈ blk A5, w.heap.size ≤ j) : PutPost T gn A ms x w (.returned (.int .i64 0)) w' := by
  have e : putE (ms.map VrV.v) x = 0 := by unfold putE; rw [if_neg (by rw [h]; decide), if_neg (by rw [h2]; decide)]
  exact ⟨by rw [e], .inr ⟨e, A', c', A5, c5, h3, hc, hA, h5⟩⟩
end
theorem put_done {T : TypeId} {w w6 w7 : World} {gn : Nat} {A A5 A7 : Option Addr} {c c5 c7 b P : Nat} {ms : List VrV} {v : VV} (H : ChP T gn A c ms w) (hT : T ≠ 28) (hT2 : T ≠ 5) (h6 : Chg [] w w6)
    (hO : w6.ownsRow b 5 1 (.slice A5 v.d.length c5) v.d.length (cB v.d)) (hb : w.heap.size ≤ b) (hown7 : w7.ownsRow 0 28 6 (.slice A7 (ms.length + 1) c7) (ms.length + 1) ((cVr ms).take (P * 6) ++ [.int .i64 v.m, .int .i64 v.c, .int .i64 v.o, .slice A5 v.d.length c5, .bool v.g, .int .i64 v.t] ++ (cVr ms).drop (P * 6)))
    (h7 : Chg (blk A) w6 w7) (hA7 : ∀ j ∈ blk A7, j ∈ blk A ∨ w6.heap.size ≤ j) :
    ChP T gn A7 c7 (ms.take P ++ ⟨v.m, v.c, v.o, A5, v.d, c5, v.g, v.t⟩ :: ms.drop P) (w7.setCell ⟨gn, 0, none⟩ (.slice A7 (ms.length + 1) c7)) ∧ Chg (gn :: blk A) w (w7.setCell ⟨gn, 0, none⟩ (.slice A7 (ms.length + 1) c7)) ∧ (∀ j ∈ blk A7, j ∈ blk A ∨ w.heap.size ≤ j) ∧ ∀ j ∈ blk A5, w.heap.size ≤ j := by
  have hgA : gn ∉ blk A := fun hm => H.ne hT hT2 (List.mem_append_left _ hm)
  have hlen : (ms.take P ++ (⟨v.m, v.c, v.o, A5, v.d, c5, v.g, v.t⟩ : VrV) :: ms.drop P).length = ms.length + 1 := by
    have e : (ms.take P ++ ms.drop P).length = ms.length := by rw [List.take_append_drop]
    rw [List.length_append] at e
    rw [List.length_append, List.length_cons]; omega
  have hcv : cVr (ms.take P ++ (⟨v.m, v.c, v.o, A5, v.d, c5, v.g, v.t⟩ : VrV) :: ms.drop P) = (cVr ms).take (P * 6) ++ [.int .i64 v.m, .int .i64 v.c, .int .i64 v.o, .slice A5 v.d.length c5, .bool v.g, .int .i64 v.t] ++ (cVr ms).drop (P * 6) := by
    rw [cVr_app, cVr_cons, cVr_take, cVr_drop, List.append_assoc]; rfl
  have hg := H.at_.lt
  have q8 : Chg [gn] w7 (w7.setCell ⟨gn, 0, none⟩ (.slice A7 (ms.length + 1) c7)) := (Chg.refl _ _).setCell (.inl (by simp)) _
  have hA5 : ∀ j ∈ blk A5, w.heap.size ≤ j := fun j hj => by have := (own_in hO j hj).1; omega
  have ha7 : At w7 gn T #[.slice A ms.length c] := (H.at_.keep h6 (by simp)).keep h7 hgA
  refine ⟨⟨⟨?_, fun m hm => ?_⟩, ?_⟩, ?_, fun j hj => (hA7 j hj).imp id (fun h => Nat.le_trans h6.size h), hA5⟩
  · rw [hlen, hcv]
    refine own_keep hown7 q8 (fun j hj hm => ?_)
    simp at hm
    subst hm
    exact own_at_ne hown7 ha7 hT.symm _ hj rfl
  · have hin : ∀ m ∈ ms, (w7.setCell ⟨gn, 0, none⟩ (.slice A7 (ms.length + 1) c7)).ownsRow 0 5 1 (.slice m.A m.val.length m.cp) m.val.length (cB m.val) := fun m hm => by
      have d6 := own_keep (H.dat m hm) h6 (fun _ _ hm => by simp at hm)
      have d7 := own_keep d6 h7 (fun j hj hA => H.toVsP.apart j hA (mem_datV hm (bo _ _ _ _ hj)))
      refine own_keep d7 q8 (fun j hj hm => ?_)
      simp at hm
      subst hm
      exact own_at_ne d7 ha7 hT2.symm _ hj rfl
    rcases List.mem_append.1 hm with hm | hm
    · exact hin m (List.mem_of_mem_take hm)
    · rcases List.mem_cons.1 hm with rfl | hm
      · have d7 := own_keep (own_base (base' := 0) hO (fun _ _ => Nat.zero_le _)) h7 (fun j hj hA => by
          have h1 := hA5 j (bo _ _ _ _ hj)
          have h2 := H.toVsP.lt j (List.mem_append_left _ hA)
          omega)
        refine own_keep d7 q8 (fun j hj hm => ?_)
        simp at hm
        subst hm
        exact own_at_ne d7 ha7 hT2.symm _ hj rfl
      · exact hin m (List.mem_of_mem_drop hm)
  · rw [hlen]
    have h := ha7.set_ 0 (.slice A7 (ms.length + 1) c7)
    simpa using h
  · have h6' : Chg (gn :: blk A) w w6 := h6.mono (fun _ h => by cases h)
    have h67 : Chg (gn :: blk A) w w7 := h6'.trans h7 (fun x hx => .inl (List.mem_cons_of_mem _ hx))
    exact h67.trans q8 (fun x hx => .inl (by simp at hx; subst hx; exact List.mem_cons_self))
set_option maxRecDepth 100000 in
set_option maxHeartbeats 6400000 in
theorem putC_raw (w : World) (gn : Nat) (A : Option Addr) (c : Nat) (ms : List VrV) (H : ChP 65 gn A c ms w) (hn : ms.length ≤ 1000000) (hrise : Rise (ms.map VrV.v)) (xm xc xo : Int) (xA : Option Addr) (xp : Nat) (xg : Bool) (xt : Int) (xd : List UInt8) (hxr : Rd w 1 xA xd.length (cB xd)) (hxl : xd.length ≤ 1099511627776) (hxn : xA = none → xp = 0) :
    Calls Try.prog 15 #[.pointer (some ⟨gn, 0, none⟩), .agg #[.int .i64 xm, .int .i64 xc, .int .i64 xo, .slice xA xd.length xp, .bool xg, .int .i64 xt]] w (PutPost 65 gn A ms ⟨xm, xc, xo, xd, xg, xt⟩ w) := by
  have HX := Lib.hid (At.new w 28 #[.int .i64 xm, .int .i64 xc, .int .i64 xo, .slice xA xd.length xp, .bool xg, .int .i64 xt])
  have HQ := Lib.hid ((Chg.refl [] w).alloc (.cells #[.int .i64 xm, .int .i64 xc, .int .i64 xo, .slice xA xd.length xp, .bool xg, .int .i64 xt] 28))
  have HH := Lib.hid (H.keep HQ.out)
  have HXR := Lib.hid (hxr.keep0 HQ.out)
  have HRI := Lib.hid hrise
  have hne : Hid (gn ≠ w.heap.size) := by have := H.at_.lt; show gn ≠ _; omega
  clear hxr hrise
  cases hv : isVV ⟨xm, xc, xo, xd, xg, xt⟩
  · have hv' : isV xm xc xo xd xg xt = false := hv
    go_enter Try.func15, Try.ntmps15
    go_wp2_with (fail)
    refine (chIs_any _ xm xc xo xA xd xp xg xt).mono ?_
    rintro e w1 ⟨rfl, hc1⟩
    rw [hv']
    go_wp2_with (fail)
    go_ret
    exact PutPost.bad hv (HQ.out.trans hc1 (by simp))
  · have hv' : isV xm xc xo xd xg xt = true := hv
    obtain ⟨P, HPB⟩ : ∃ P, Hid (posV (ms.map VrV.v) ⟨xm, xc, xo, xd, xg, xt⟩ = P) := ⟨posV (ms.map VrV.v) ⟨xm, xc, xo, xd, xg, xt⟩, Lib.hid rfl⟩
    obtain ⟨B, HHB⟩ : ∃ B, Hid (hasV (ms.map VrV.v) ⟨xm, xc, xo, xd, xg, xt⟩ = B) := ⟨hasV (ms.map VrV.v) ⟨xm, xc, xo, xd, xg, xt⟩, Lib.hid rfl⟩
    have hP : P ≤ ms.length := by have := posV_le (ms.map VrV.v) ⟨xm, xc, xo, xd, xg, xt⟩; rw [HPB.out, List.length_map] at this; exact this
    go_enter Try.func15, Try.ntmps15
    go_wp2_with (fail)
    generalize hwz : w.alloc (.cells #[.int .i64 xm, .int .i64 xc, .int .i64 xo, .slice xA xd.length xp, .bool xg, .int .i64 xt] 28) = wz at *
    generalize hgx : w.heap.size = gx at *
    refine (chIs_any _ xm xc xo xA xd xp xg xt).mono ?_
    rintro e w1 ⟨rfl, hc1⟩
    rw [hv']
    have HX1 := Lib.hid (HX.out.keep hc1 (by simp))
    have HH1 := Lib.hid (HH.out.keep hc1)
    have HR := Lib.hid (Rd.of_own HH1.out.row)
    have KK : Hid (∀ w', Chg [] w1 w' → w'.cell? ⟨gn, 0, none⟩ = some (.slice A ms.length c) ∧ w'.cell? ⟨gx, 0, none⟩ = some (.int .i64 xm) ∧ w'.cell? ⟨gx, 1, none⟩ = some (.int .i64 xc) ∧ w'.cell? ⟨gx, 2, none⟩ = some (.int .i64 xo) ∧ w'.cell? ⟨gx, 3, none⟩ = some (.slice xA xd.length xp) ∧ w'.cell? ⟨gx, 4, none⟩ = some (.bool xg) ∧ w'.cell? ⟨gx, 5, none⟩ = some (.int .i64 xt)) := fun w' hc => ⟨(HH1.out.at_.keep hc (by simp)).cell 0, (HX1.out.keep hc (by simp)).cell 0, (HX1.out.keep hc (by simp)).cell 1, (HX1.out.keep hc (by simp)).cell 2, (HX1.out.keep hc (by simp)).cell 3, (HX1.out.keep hc (by simp)).cell 4, (HX1.out.keep hc (by simp)).cell 5⟩
    go_upto_region 3 with (fail)
    refine wp_region_held_drew (S := fun w' => w'.cell? ⟨gn, 0, none⟩ = some (.slice A ms.length c) ∧ w'.cell? ⟨gx, 0, none⟩ = some (.int .i64 xm) ∧ w'.cell? ⟨gx, 1, none⟩ = some (.int .i64 xc) ∧ w'.cell? ⟨gx, 2, none⟩ = some (.int .i64 xo) ∧ w'.cell? ⟨gx, 3, none⟩ = some (.slice xA xd.length xp) ∧ w'.cell? ⟨gx, 4, none⟩ = some (.bool xg) ∧ w'.cell? ⟨gx, 5, none⟩ = some (.int .i64 xt)) (by kernel_rfl) ?_ (fun hHeld => ?_)
    · exact KK.out _ ((Chg.refl [] w1).drewN 1)
    refine takeW (i := 0) (d := (some 15)) (v := ?_) rfl rfl (by kernel_rfl) (by kernel_rfl) (by kernel_rfl) (fun _ _ _ h => h) (by rfl) ?_ (by assumption) ?_
    rotate_left
    · intro w' hSw; (try dsimp only at hSw); go_simp; try with_reducible rfl
    try simp only [Act.put, List.setIfInBounds_toArray, List.set_cons_zero, List.set_cons_succ]
    refine takeW (i := 1) (d := (some 16)) (v := ?_) rfl rfl (by kernel_rfl) (by kernel_rfl) (by kernel_rfl) (fun _ _ _ h => h) (by rfl) ?_ (by assumption) ?_
    rotate_left
    · intro w' hSw; (try dsimp only at hSw); go_simp; try with_reducible rfl
    try simp only [Act.put, List.setIfInBounds_toArray, List.set_cons_zero, List.set_cons_succ]
    refine takeW (i := 2) (d := (some 17)) (v := ?_) rfl rfl (by kernel_rfl) (by kernel_rfl) (by kernel_rfl) (fun _ _ _ h => h) (by rfl) ?_ (by assumption) ?_
    rotate_left
    · intro w' hSw; (try dsimp only at hSw); go_simp; try with_reducible rfl
    try simp only [Act.put, List.setIfInBounds_toArray, List.set_cons_zero, List.set_cons_succ]
    refine takeW (i := 3) (d := (some 18)) (v := ?_) rfl rfl (by kernel_rfl) (by kernel_rfl) (by kernel_rfl) (fun _ _ _ h => h) (by rfl) ?_ (by assumption) ?_
    rotate_left
    · intro w' hSw; (try dsimp only at hSw); go_simp; try with_reducible rfl
    try simp only [Act.put, List.setIfInBounds_toArray, List.set_cons_zero, List.set_cons_succ]
    refine takeW (i := 4) (d := (some 19)) (v := ?_) rfl rfl (by kernel_rfl) (by kernel_rfl) (by kernel_rfl) (fun _ _ _ h => h) (by rfl) ?_ (by assumption) ?_
    rotate_left
    · intro w' hSw; (try dsimp only at hSw); go_simp; try with_reducible rfl
    try simp only [Act.put, List.setIfInBounds_toArray, List.set_cons_zero, List.set_cons_succ]
    refine wpAnyH_ready (rs := [5]) (by kernel_rfl) (by simp) ?_
    refine AllReadyH.cons rfl (fun K hK => ?_) AllReadyH.nil
    go_simp
    go_at_call 33
    (with_reducible refine (bsearch_any _ A c ms xm xc xo xA xp xg xt xd (HR.out.keep0 ((by repeat' (first | (with_reducible assumption) | (with_reducible exact Chg.refl _ _) | (with_reducible refine Chg.alloc ?_ _) | (with_reducible refine Chg.drewN ?_ _) | (with_reducible refine Chg.drew ?_) | (with_reducible refine Chg.strW ?_ _ _) | (with_reducible refine Chg.t0 ?_ (by with_reducible assumption)))) : Chg [] w1 _)) hn HRI.out).mono ?_)
    rintro e w3 ⟨rfl, hch3⟩
    rw [HPB.out, HHB.out]
    have hch23 : Hid (Chg [] w1 w3) := ((by repeat' (first | (with_reducible assumption) | (with_reducible exact Chg.refl _ _) | (with_reducible refine Chg.alloc ?_ _) | (with_reducible refine Chg.drewN ?_ _) | (with_reducible refine Chg.drew ?_) | (with_reducible refine Chg.strW ?_ _ _) | (with_reducible refine Chg.t0 ?_ (by with_reducible assumption)))) : Chg [] w1 w3)
    go_wp2_with (fail)
    refine hK.out _ _ ?_ (fun hHeld => ?_)
    · first | exact KK.out _ hch23.out | (dsimp only; exact KK.out _ hch23.out)
    clear hK K
    try simp only [Act.put, List.setIfInBounds_toArray, List.set_cons_zero, List.set_cons_succ]
    refine takeW (i := 6) (d := (some 14)) (v := ?_) rfl rfl (by kernel_rfl) (by kernel_rfl) (by kernel_rfl) (fun _ _ _ h => h) (by rfl) ?_ (by assumption) ?_
    rotate_left
    · intro w' hSw; (try dsimp only at hSw); go_simp; try with_reducible rfl
    try simp only [Act.put, List.setIfInBounds_toArray, List.set_cons_zero, List.set_cons_succ]
    refine takeW (i := 7) (d := (some 21)) (v := ?_) rfl rfl (by kernel_rfl) (by kernel_rfl) (by kernel_rfl) (fun _ _ _ h => h) (by rfl) ?_ (by assumption) ?_
    rotate_left
    · intro w' hSw; (try dsimp only at hSw); go_simp; try with_reducible rfl
    try simp only [Act.put, List.setIfInBounds_toArray, List.set_cons_zero, List.set_cons_succ]
    refine takeW (i := 8) (d := (some 22)) (v := ?_) rfl rfl (by kernel_rfl) (by kernel_rfl) (by kernel_rfl) (fun _ _ _ h => h) (by rfl) ?_ (by assumption) ?_
    rotate_left
    · intro w' hSw; (try dsimp only at hSw); go_simp; try with_reducible rfl
    try simp only [Act.put, List.setIfInBounds_toArray, List.set_cons_zero, List.set_cons_succ]
    refine takeW (i := 9) (d := (some 5)) (v := ?_) rfl rfl (by kernel_rfl) (by kernel_rfl) (by kernel_rfl) (fun _ _ _ h => h) (by rfl) ?_ (by assumption) ?_
    rotate_left
    · intro w' hSw; (try dsimp only at hSw); go_simp; try with_reducible rfl
    try simp only [Act.put, List.setIfInBounds_toArray, List.set_cons_zero, List.set_cons_succ]
    refine takeW (i := 10) (d := (some 6)) (v := ?_) rfl rfl (by kernel_rfl) (by kernel_rfl) (by kernel_rfl) (fun _ _ _ h => h) (by rfl) ?_ (by assumption) ?_
    rotate_left
    · intro w' hSw; (try dsimp only at hSw); go_simp; try with_reducible rfl
    try simp only [Act.put, List.setIfInBounds_toArray, List.set_cons_zero, List.set_cons_succ]
    refine wpAnyH_done (by kernel_rfl) ?_ _
    cases B
    · have HH3 := Lib.hid (HH1.out.keep hch23.out)
      have HX3 := Lib.hid (HX1.out.keep hch23.out (by simp))
      have HXR3 := Lib.hid ((HXR.out.keep0 hc1).keep0 hch23.out)
      have HC3 := Lib.hid ((HQ.out.trans hc1 (by simp)).trans hch23.out (by simp))
      have hgA : gn ∉ blk A := fun hm => HH3.out.ne ch_ne.1 ch_ne.2 (List.mem_append_left _ hm)
      have hxA : gx ∉ blk A := fun hm => by have := H.toVsP.lt gx (List.mem_append_left _ hm); omega
      have HKP : Hid (∀ w', Chg (blk A) w3 w' → w'.cell? ⟨gn, 0, none⟩ = some (.slice A ms.length c) ∧ w'.cell? ⟨gx, 0, none⟩ = some (.int .i64 xm) ∧ w'.cell? ⟨gx, 1, none⟩ = some (.int .i64 xc) ∧ w'.cell? ⟨gx, 2, none⟩ = some (.int .i64 xo) ∧ w'.cell? ⟨gx, 3, none⟩ = some (.slice xA xd.length xp) ∧ w'.cell? ⟨gx, 4, none⟩ = some (.bool xg) ∧ w'.cell? ⟨gx, 5, none⟩ = some (.int .i64 xt)) := fun w' hc => ⟨(HH3.out.at_.keep hc hgA).cell 0, (HX3.out.keep hc hxA).cell 0, (HX3.out.keep hc hxA).cell 1, (HX3.out.keep hc hxA).cell 2, (HX3.out.keep hc hxA).cell 3, (HX3.out.keep hc hxA).cell 4, (HX3.out.keep hc hxA).cell 5⟩
      clear HH1 HX1 HXR hch23 hc1 HR KK
      go_upto_region 6 with (fail)
      refine wp_regionE 12 (fun w' => w'.cell? ⟨gn, 0, none⟩ = some (.slice A ms.length c) ∧ w'.cell? ⟨gx, 0, none⟩ = some (.int .i64 xm) ∧ w'.cell? ⟨gx, 1, none⟩ = some (.int .i64 xc) ∧ w'.cell? ⟨gx, 2, none⟩ = some (.int .i64 xo) ∧ w'.cell? ⟨gx, 3, none⟩ = some (.slice xA xd.length xp) ∧ w'.cell? ⟨gx, 4, none⟩ = some (.bool xg) ∧ w'.cell? ⟨gx, 5, none⟩ = some (.int .i64 xt)) (by kernel_rfl) ?_ (fun hHeld => ?_)
      · exact HKP.out _ (((Chg.refl [] w3).drew).mono (by simp))
      have HDR : Hid (Chg [] w3 w3.drew) := (Chg.refl [] w3).drew
      generalize w3.drew = wd at *
      refine takeWE (i := 0) (d := (some 24)) (v := ?_) rfl rfl (by kernel_rfl) (by kernel_rfl) (by kernel_rfl) (by kernel_rfl) (by kernel_rfl) (fun _ _ _ h => h) (by rfl) ?_ (by assumption) ?_
      rotate_left
      · intro w' hSw; (try dsimp only at hSw); go_simp; try with_reducible rfl
      try simp only [Act.put, List.setIfInBounds_toArray, List.set_cons_zero, List.set_cons_succ]
      refine takeWE (i := 1) (d := (some 25)) (v := ?_) rfl rfl (by kernel_rfl) (by kernel_rfl) (by kernel_rfl) (by kernel_rfl) (by kernel_rfl) (fun _ _ _ h => h) (by rfl) ?_ (by assumption) ?_
      rotate_left
      · intro w' hSw; (try dsimp only at hSw); go_simp; try with_reducible rfl
      try simp only [Act.put, List.setIfInBounds_toArray, List.set_cons_zero, List.set_cons_succ]
      refine takeWE (i := 2) (d := (some 26)) (v := ?_) rfl rfl (by kernel_rfl) (by kernel_rfl) (by kernel_rfl) (by kernel_rfl) (by kernel_rfl) (fun _ _ _ h => h) (by rfl) ?_ (by assumption) ?_
      rotate_left
      · intro w' hSw; (try dsimp only at hSw); go_simp; try with_reducible rfl
      try simp only [Act.put, List.setIfInBounds_toArray, List.set_cons_zero, List.set_cons_succ]
      refine takeWE (i := 3) (d := (some 27)) (v := ?_) rfl rfl (by kernel_rfl) (by kernel_rfl) (by kernel_rfl) (by kernel_rfl) (by kernel_rfl) (fun _ _ _ h => h) (by rfl) ?_ (by assumption) ?_
      rotate_left
      · intro w' hSw; (try dsimp only at hSw); go_simp; try with_reducible rfl
      try simp only [Act.put, List.setIfInBounds_toArray, List.set_cons_zero, List.set_cons_succ]
      refine takeWE (i := 4) (d := (some 28)) (v := ?_) rfl rfl (by kernel_rfl) (by kernel_rfl) (by kernel_rfl) (by kernel_rfl) (by kernel_rfl) (fun _ _ _ h => h) (by rfl) ?_ (by assumption) ?_
      rotate_left
      · intro w' hSw; (try dsimp only at hSw); go_simp; try with_reducible rfl
      try simp only [Act.put, List.setIfInBounds_toArray, List.set_cons_zero, List.set_cons_succ]
      refine takeWE (i := 5) (d := (some 29)) (v := ?_) rfl rfl (by kernel_rfl) (by kernel_rfl) (by kernel_rfl) (by kernel_rfl) (by kernel_rfl) (fun _ _ _ h => h) (by rfl) ?_ (by assumption) ?_
      rotate_left
      · intro w' hSw; (try dsimp only at hSw); go_simp; try with_reducible rfl
      try simp only [Act.put, List.setIfInBounds_toArray, List.set_cons_zero, List.set_cons_succ]
      refine takeWE (i := 6) (d := (some 30)) (v := ?_) rfl rfl (by kernel_rfl) (by kernel_rfl) (by kernel_rfl) (by kernel_rfl) (by kernel_rfl) (fun _ _ _ h => h) (by rfl) ?_ (by assumption) ?_
      rotate_left
      · intro w' hSw; (try dsimp only at hSw); go_simp; try with_reducible rfl
      try simp only [Act.put, List.setIfInBounds_toArray, List.set_cons_zero, List.set_cons_succ]
      refine wpE_ready (rs := [7]) (by kernel_rfl) (by simp) ?_
      refine AllE.cons rfl (fun K hK => ?_) (AllE.nil)
      go_simp
      go_at_call 36
      (with_reducible refine (ownC_any _ xm xc xo xA xp xg xt xd (HXR3.out.keep0 (HDR.out.trans ((by repeat' (first | (with_reducible assumption) | (with_reducible exact Chg.refl _ _) | (with_reducible refine Chg.alloc ?_ _) | (with_reducible refine Chg.drewN ?_ _) | (with_reducible refine Chg.drew ?_) | (with_reducible refine Chg.strW ?_ _ _) | (with_reducible refine Chg.t0 ?_ (by with_reducible assumption)))) : Chg [] wd _) (by simp))) hxl hxn).mono ?_)
      rintro e w5 ⟨A5, c5, rfl, hown5, hch5⟩
      have HC5 : Hid (Chg [] w3 w5) := HDR.out.trans ((by repeat' (first | (with_reducible assumption) | (with_reducible exact Chg.refl _ _) | (with_reducible refine Chg.alloc ?_ _) | (with_reducible refine Chg.drewN ?_ _) | (with_reducible refine Chg.drew ?_) | (with_reducible refine Chg.strW ?_ _ _) | (with_reducible refine Chg.t0 ?_ (by with_reducible assumption)))) : Chg [] wd w5) (by simp)
      have HO5 : Hid (w5.ownsRow wd.heap.size 5 1 (.slice A5 xd.length c5) xd.length (cB xd)) := hown5
      clear hown5 hch5
      go_wp2_with (fail)
      refine hK.out _ _ ?_ (fun hHeld => ?_)
      · exact HKP.out _ (HC5.out.mono (by simp))
      clear hK K
      try simp only [Act.put, List.setIfInBounds_toArray, List.set_cons_zero, List.set_cons_succ]
      refine wpE_ready (rs := [8]) (by kernel_rfl) (by simp) ?_
      refine AllE.cons rfl (fun K hK => ?_) (AllE.nil)
      go_simp
      go_wp2_with (fail)
      have HV6 : Hid (At (w5.alloc (.cells #[.int .i64 xm, .int .i64 xc, .int .i64 xo, .slice A5 xd.length c5, .bool xg, .int .i64 xt] 28)) w5.heap.size 28 #[.int .i64 xm, .int .i64 xc, .int .i64 xo, .slice A5 xd.length c5, .bool xg, .int .i64 xt]) := At.new w5 28 _
      have HC6 : Hid (Chg [] w3 (w5.alloc (.cells #[.int .i64 xm, .int .i64 xc, .int .i64 xo, .slice A5 xd.length c5, .bool xg, .int .i64 xt] 28))) := HC5.out.alloc _
      have HO6 : Hid ((w5.alloc (.cells #[.int .i64 xm, .int .i64 xc, .int .i64 xo, .slice A5 xd.length c5, .bool xg, .int .i64 xt] 28)).ownsRow wd.heap.size 5 1 (.slice A5 xd.length c5) xd.length (cB xd)) := own_keep HO5.out ((Chg.refl [] w5).alloc _) (fun _ _ hm => by simp at hm)
      generalize hvb : w5.heap.size = vb at *
      generalize hw6 : w5.alloc (.cells #[.int .i64 xm, .int .i64 xc, .int .i64 xo, .slice A5 xd.length c5, .bool xg, .int .i64 xt] 28) = w6 at *
      refine hK.out _ _ ?_ (fun hHeld => ?_)
      · exact HKP.out _ (HC6.out.mono (by simp))
      clear hK K
      try simp only [Act.put, List.setIfInBounds_toArray, List.set_cons_zero, List.set_cons_succ]
      refine wpE_ready (rs := [9]) (by kernel_rfl) (by simp) ?_
      refine AllE.cons rfl (fun K hK => ?_) (AllE.nil)
      go_simp
      go_at_call 35
      refine (insert_any (vs := [.int .i64 xm, .int .i64 xc, .int .i64 xo, .slice A5 xd.length c5, .bool xg, .int .i64 xt]) (HH3.out.keep HC6.out).row (Nat.zero_le _) hn hP HV6.out rfl (fun hm => by have := HH3.out.toVsP.lt vb (List.mem_append_left _ hm); have := HC5.out.size; omega) (by simp [Value.oneCell']) (cVr_one ms)).mono ?_
      rintro e w7 ⟨A7, c7, rfl, hown7, hch7, hA7⟩
      have HK7 : Hid (Chg (blk A) w3 w7) := (HC6.out.mono (T := blk A) (fun _ h => by cases h)).trans hch7 (fun _ h => .inl h)
      have HD := Lib.hid (put_done (v := ⟨xm, xc, xo, xd, xg, xt⟩) (A5 := A5) (c5 := c5) (P := P) H ch_ne.1 ch_ne.2 (HC3.out.trans HC6.out (by simp)) HO6.out (HC3.out.trans HDR.out (by simp)).size hown7 hch7 hA7)
      have g7 := (HH3.out.at_.keep HK7.out hgA).cell 0
      have f7 := (HH3.out.at_.keep HK7.out hgA).free 0
      clear hown7 hch7 hA7 HV6 HC6 HO6
      go_wp2_with (fail)
      refine hK.out _ _ ?_ (fun hHeld => ?_)
      · exact HKP.out _ HK7.out
      clear hK K
      try simp only [Act.put, List.setIfInBounds_toArray, List.set_cons_zero, List.set_cons_succ]
      refine takeWE (i := 10) (d := (some 34)) (v := ?_) rfl rfl (by kernel_rfl) (by kernel_rfl) (by kernel_rfl) (by kernel_rfl) (by kernel_rfl) (fun _ _ _ h => h) (by rfl) ?_ (by assumption) ?_
      rotate_left
      · intro w' hSw; (try dsimp only at hSw); go_simp; try with_reducible rfl
      try simp only [Act.put, List.setIfInBounds_toArray, List.set_cons_zero, List.set_cons_succ]
      refine takeWE (i := 11) (d := (some 35)) (v := ?_) rfl rfl (by kernel_rfl) (by kernel_rfl) (by kernel_rfl) (by kernel_rfl) (by kernel_rfl) (fun _ _ _ h => h) (by rfl) ?_ (by assumption) ?_
      rotate_left
      · intro w' hSw; (try dsimp only at hSw); go_simp; try with_reducible rfl
      try simp only [Act.put, List.setIfInBounds_toArray, List.set_cons_zero, List.set_cons_succ]
      refine wpE_ready (rs := [12]) (by kernel_rfl) (by simp) ?_
      refine AllE.last rfl (by kernel_rfl) (fun K hK => ?_)
      go_simp
      go_wp2_with (fail)
      refine hK.out _ _ ?_
      clear hK K
      go_wp2_with (fail)
      go_ret
      obtain ⟨h1, h2, h3, h4⟩ := HD.out
      exact PutPost.yes hv HHB.out (by rw [HPB.out]; exact h1) h2 h3 h4
    · go_wp2_with (fail)
      go_ret
      exact PutPost.has hv HHB.out ((HQ.out.trans hc1 (by simp)).trans hch23.out (by simp))
end Go.Proofs.Ytmliclfepnebfaa
