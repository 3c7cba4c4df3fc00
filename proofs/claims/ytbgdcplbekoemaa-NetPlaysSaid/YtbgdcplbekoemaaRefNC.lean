
/-
  net: the reference: Give, Late.
-/
import Derived.Test.YtbgdcplbekoemaaRefNB
namespace Go.Proofs.Ytbgdcplbekoemaa
open Go.RowKit
set_option linter.unusedVariables false
set_option linter.unusedSimpArgs false
attribute [local go_sem ↓] run_min2 run_max2
section
variable {w0 w w' : World} {gx : Nat} {A : Option Addr} {c : Nat} {ms : List UdV} {l : List MV} {rs : List Res}
theorem rtakes_all (h : RefA w0 w gx l rs) (hl : l.length ≤ 1024) (hp : 0 < l.length) (p : Int) (i : Nat) (hpi : pickN p l.length = i) (m : MV) (hm : l[i]? = some m) :
    Calls Try.prog 41 #[.pointer (some ⟨gx, 0, none⟩), .int .i64 p] w fun e w' => ∃ B c2, e = .returned (.tuple #[.agg #[.int .i64 m.f, .int .i64 m.t, .slice B m.d.length c2, .bool m.sp], .bool true]) ∧ (B = none → c2 = 0) ∧ RefA w0 w' gx (l.eraseIdx i) (rRow 0 5 B m.d.length c2 (cB m.d) :: rs) ∧ w.heap.size ≤ w'.heap.size := by
  obtain ⟨A, c, ms, rfl, H⟩ := h
  rw [List.length_map] at hl hp hpi
  rw [List.getElem?_map] at hm
  obtain ⟨mi, hmi, rfl⟩ := Option.map_eq_some_iff.1 hm
  have hR := RefH.of_all H
  refine (rtakes_yes hR hl hp p i hpi mi hmi).mono ?_
  rintro e w1 ⟨A1, c1, rfl, h1, hc, hA1⟩
  have hpm := datF_erase hmi
  have hnd : (netF gx A ms).Nodup := hR.nodup (ref_datF H)
  have hc' : Chg (netF gx A ms) w w1 := hc.mono (fun j hj => .inl (by simp at hj; subst hj; exact List.mem_cons_self))
  have ho : w1.ownsRow w0.heap.size 5 1 (.slice mi.A mi.d.length mi.cp) mi.d.length (cB mi.d) := own_keep (hR.dat mi (List.mem_of_getElem? hmi)) hc (fun j hj hj2 => own_at_ne (hR.dat mi (List.mem_of_getElem? hmi)) hR.at_ (by decide) j hj (by simpa using hj2))
  have ho0 := own_base (base' := 0) ho (fun _ _ => Nat.zero_le _)
  have hlt := hR.lt
  have hdn : (datF (ms.eraseIdx i) ++ blk mi.A).Nodup := hpm.nodup_iff.1 (ref_datF H)
  have hsub : ∀ j ∈ datF (ms.eraseIdx i) ++ blk mi.A, j ∈ datF ms := fun j hj => hpm.mem_iff.2 hj
  have hFn : (netF gx A1 (ms.eraseIdx i) ++ blk mi.A).Nodup := by
    unfold netF
    rw [List.cons_append, List.append_assoc]
    refine List.nodup_cons.2 ⟨fun hm => ?_, List.nodup_append.2 ⟨blk_nodup A1, hdn, fun a ha b hb hab => ?_⟩⟩
    · rcases List.mem_append.1 hm with h2 | h2
      · exact own_at_ne h1.row h1.at_ (by decide) gx (ob _ _ _ _ h2) rfl
      · have h3 := hsub gx h2
        exact (List.nodup_cons.1 hnd).1 (List.mem_append_right _ h3)
    · subst hab
      have h3 := hsub a hb
      have h4 := hlt a (List.mem_cons_of_mem _ (List.mem_append_right _ h3))
      have h5 := hA1 a ha
      omega
  have h2 := H.head hc' ⟨netF gx A1 (ms.eraseIdx i) ++ blk mi.A, fun w => RefP gx A1 c1 (ms.eraseIdx i) w ∧ w.ownsRow 0 5 1 (.slice mi.A mi.d.length mi.cp) mi.d.length (cB mi.d)⟩
    (fun b hb => ⟨by
      rcases List.mem_append.1 hb with hb | hb
      · rcases List.mem_cons.1 hb with rfl | hb
        · exact .inl List.mem_cons_self
        · rcases List.mem_append.1 hb with hb | hb
          · exact .inr (hA1 b hb)
          · exact .inl (List.mem_cons_of_mem _ (List.mem_append_right _ (hsub b (List.mem_append_left _ hb))))
      · exact .inl (List.mem_cons_of_mem _ (List.mem_append_right _ (hsub b (List.mem_append_right _ hb)))), by
      rcases List.mem_append.1 hb with hb | hb
      · exact h1.lt b hb
      · exact (own_in ho b hb).2⟩) hFn ⟨h1.p, ho0⟩ (stable_and (rRef_stable w0 gx A1 c1 (ms.eraseIdx i)) (rRow_stable w0 0 5 mi.A mi.d.length mi.cp (cB mi.d)))
  have h3 := h2.split (rRef_stable w0 gx A1 c1 (ms.eraseIdx i)) (rRow_stable w0 0 5 mi.A mi.d.length mi.cp (cB mi.d))
  refine ⟨mi.A, mi.cp, rfl, fun hA => ?_, ⟨A1, c1, ms.eraseIdx i, ?_, h3⟩, hc.size⟩
  · rcases ho.2 with ⟨h4, _⟩ | ⟨g, cap, cur, h4, _⟩
    · injection h4
    · injection h4 with h4; rw [hA] at h4; cases h4
  · rw [List.eraseIdx_eq_take_drop_succ, List.eraseIdx_eq_take_drop_succ, List.map_append, List.map_take, List.map_drop]
theorem rtakes_none (h : RefA w0 w gx [] rs) (p : Int) : Calls Try.prog 41 #[.pointer (some ⟨gx, 0, none⟩), .int .i64 p] w fun e w' => e = .returned (.tuple #[.agg #[.int .i64 0, .int .i64 0, .slice none 0 0, .bool false], .bool false]) ∧ Chg [] w w' := by
  obtain ⟨A, c, ms, hm, H⟩ := h
  obtain rfl : ms = [] := by simpa using hm
  exact rtakes_no (RefH.of_all H) p
theorem rlen_all (h : RefA w0 w gx l rs) : Calls Try.prog 22 #[.pointer (some ⟨gx, 0, none⟩)] w fun e w' => e = .returned (.int .i64 l.length) ∧ w' = w := by
  obtain ⟨A, c, ms, rfl, H⟩ := h
  rw [List.length_map]
  exact rlen_net (RefH.of_all H)
end
section
variable {w0 w w' : World} {gn : Nat} {l : List MV} {rs : List Res}
set_option maxHeartbeats 1600000 in
/-- Give's walk behind takes, whatever takes told. -/
theorem rgive_with (p : Int) (v : Value) (mf mt : Int) (n : Nat) (msp ok : Bool) (Post : Option Addr → Nat → World → Prop) (HT : Calls Try.prog 41 #[v, .int .i64 p] (w.alloc (.cells #[.int .i64 0, .int .i64 0, .slice none 0 0] 35)) fun e w' => ∃ B c2, e = .returned (.tuple #[.agg #[.int .i64 mf, .int .i64 mt, .slice B n c2, .bool msp], .bool ok]) ∧ At w' w.heap.size 35 #[.int .i64 0, .int .i64 0, .slice none 0 0] ∧ Post B c2 w')
    (hP : ∀ B c2 w1 w2, Post B c2 w1 → w.heap.size < w1.heap.size → Chg [w.heap.size] w1 w2 → Post B c2 w2) :
    Calls Try.prog 30 #[v, .int .i64 p] w fun e w' => ∃ B c2, e = .returned (.tuple #[.agg #[.int .i64 mf, .int .i64 mt, .slice B n c2], .bool ok]) ∧ Post B c2 w' := by
  have HT' := Lib.hid HT
  have HPP := Lib.hid hP
  clear HT hP
  go_enter Try.func30, Try.ntmps30
  go_wp2_with (fail)
  refine HT'.out.mono ?_
  rintro e w1 ⟨B, c2, rfl, z1, hpost⟩
  have hl1 := z1.lt
  have b1 := At.new w1 72 #[.int .i64 mf, .int .i64 mt, .slice B n c2, .bool msp]
  have q1 := (Chg.refl [] w1).alloc (.cells #[.int .i64 mf, .int .i64 mt, .slice B n c2, .bool msp] 72)
  have z2 := z1.keep q1 (by simp)
  have u0 := z2.cell 0
  have u1 := z2.cell 1
  have u2 := z2.cell 2
  have fu0 := z2.free 0
  have fu1 := z2.free 1
  have fu2 := z2.free 2
  have x0 := b1.cell 0
  have x1 := b1.cell 1
  have x2 := b1.cell 2
  have v0 := z1.cell 0
  have v1 := z1.cell 1
  have v2 := z1.cell 2
  have fv0 := z1.free 0
  have fv1 := z1.free 1
  have fv2 := z1.free 2
  simp only [List.getElem?_toArray, List.getElem?_cons_zero, List.getElem?_cons_succ] at u0 u1 u2 x0 x1 x2 v0 v1 v2
  have hne : ¬ w1.heap.size = w.heap.size := by omega
  clear b1
  go_wp2_with (fail)
  refine ret_msg2 (g := w.heap.size) (T := 35) (cs := #[.int .i64 mf, .int .i64 mt, .slice B n c2]) rfl Try.results30 rfl rfl ?_ ?_
  · have h := ((z1.set_ 0 (.int .i64 mf)).set_ 1 (.int .i64 mt)).set_ 2 (.slice B n c2)
    refine At.al ?_ _
    simpa using h
  · refine ⟨B, c2, rfl, HPP.out _ _ _ _ hpost hl1 ?_⟩
    exact ((((Chg.refl _ _).setCell (.inl (by simp)) _).setCell (.inl (by simp)) _).setCell (.inl (by simp)) _).alloc _
theorem rgive_all (h : RefA w0 w gn l rs) (hl : l.length ≤ 1024) (hp : 0 < l.length) (p : Int) (i : Nat) (hpi : pickN p l.length = i) (m : MV) (hm : l[i]? = some m) :
    Calls Try.prog 30 #[.pointer (some ⟨gn, 0, none⟩), .int .i64 p] w fun e w' => ∃ B c2, e = .returned (.tuple #[.agg #[.int .i64 m.f, .int .i64 m.t, .slice B m.d.length c2], .bool true]) ∧ RefA w0 w' gn (l.eraseIdx i) (rRow 0 5 B m.d.length c2 (cB m.d) :: rs) ∧ w.heap.size ≤ w'.heap.size := by
  have h1 := h.newAt 35 #[.int .i64 0, .int .i64 0, .slice none 0 0] rfl
  have HT := rtakes_all h1 hl hp p i hpi m hm
  refine (rgive_with p (.pointer (some ⟨gn, 0, none⟩)) m.f m.t m.d.length m.sp true (fun B c2 w' => RefA w0 w' gn (l.eraseIdx i) (⟨[w.heap.size], fun _ => True⟩ :: rRow 0 5 B m.d.length c2 (cB m.d) :: rs) ∧ w.heap.size ≤ w'.heap.size) (HT.mono ?_) ?_).mono ?_
  · rintro e w1 ⟨B, c2, rfl, hB, H1, hs⟩
    have H2 := H1.swap
    refine ⟨B, c2, rfl, H2.at_ 0 rfl, H2.beside fun r H => ?_, by simp at hs; omega⟩
    exact H.head (Chg.refl _ _) ⟨[w.heap.size], fun _ => True⟩ (fun b hb => ⟨.inl hb, (H.rng 0 rfl b hb).2⟩) (by simp) trivial (fun _ _ _ _ _ => trivial)
  · rintro B c2 w1 w2 ⟨H1, hs⟩ hlt hc
    refine ⟨H1.beside fun r H => ?_, Nat.le_trans hs hc.size⟩
    exact H.head hc ⟨[w.heap.size], fun _ => True⟩ (fun b hb => ⟨.inl hb, Nat.lt_of_lt_of_le (H.rng 0 rfl b hb).2 hc.size⟩) (by simp) trivial (fun _ _ _ _ _ => trivial)
  · rintro e w1 ⟨B, c2, rfl, H1, hs⟩
    exact ⟨B, c2, rfl, H1.tail, hs⟩
theorem rgive_none (h : RefA w0 w gn [] rs) (p : Int) :
    Calls Try.prog 30 #[.pointer (some ⟨gn, 0, none⟩), .int .i64 p] w fun e w' => e = .returned (.tuple #[.agg #[.int .i64 0, .int .i64 0, .slice none 0 0], .bool false]) ∧ Chg [] w w' := by
  have q0 := (Chg.refl [] w).alloc (.cells #[.int .i64 0, .int .i64 0, .slice none 0 0] 35)
  have HT := rtakes_none (h.quiet q0) p
  refine (rgive_with p (.pointer (some ⟨gn, 0, none⟩)) 0 0 0 false false (fun B c2 w' => B = none ∧ c2 = 0 ∧ Chg [] w w') (HT.mono ?_) ?_).mono ?_
  · rintro e w1 ⟨rfl, hc⟩
    exact ⟨none, 0, rfl, (At.new w _ _).keep hc (by simp), rfl, rfl, q0.trans hc (by simp)⟩
  · rintro B c2 w1 w2 ⟨rfl, rfl, h1⟩ hlt hc
    exact ⟨rfl, rfl, h1.trans hc (by simp)⟩
  · rintro e w1 ⟨B, c2, rfl, rfl, rfl, hc⟩
    exact ⟨rfl, hc⟩
end
section
variable {w0 w w' : World} {gx : Nat} {A : Option Addr} {c : Nat} {ms : List UdV} {l : List MV} {rs : List Res}
/-- One more. -/
theorem RefH.push (h : RefH w0 w gx A c ms) {X : UdV} {wa w6 : World} (qd : Chg [] w wa) (g6 : Chg (blk A) wa w6) {A6 : Option Addr} {c6 : Nat} (hown6 : w6.ownsRow w0.heap.size 72 4 (.slice A6 (ms.length + 1) c6) (ms.length + 1) (cUd ms ++ cUd [X])) (hX : w.ownsRow w0.heap.size 5 1 (.slice X.A X.d.length X.cp) X.d.length (cB X.d)) :
    RefH w0 (w6.setCell ⟨gx, 0, none⟩ (.slice A6 (ms.length + 1) c6)) gx A6 c6 (ms ++ [X]) ∧ Chg (gx :: blk A) w (w6.setCell ⟨gx, 0, none⟩ (.slice A6 (ms.length + 1) c6)) := by
  have hgA : gx ∉ blk A := fun hm => own_at_ne h.row h.at_ (by decide) gx (ob _ _ _ gx hm) rfl
  have x6 := (h.at_.keep qd (by simp)).keep g6 hgA
  have q7 : Chg [gx] w6 (w6.setCell ⟨gx, 0, none⟩ (.slice A6 (ms.length + 1) c6)) := (Chg.refl _ _).setCell (.inl (by simp)) _
  have x7 : At (w6.setCell ⟨gx, 0, none⟩ (.slice A6 (ms.length + 1) c6)) gx 50 #[.slice A6 (ms.length + 1) c6] := by
    have h := x6.set_ 0 (.slice A6 (ms.length + 1) c6)
    simpa using h
  have hcw : Chg (gx :: blk A) w (w6.setCell ⟨gx, 0, none⟩ (.slice A6 (ms.length + 1) c6)) := ((qd.mono (by simp)).trans (g6.mono (fun x hx => .inl (List.mem_cons_of_mem _ hx))) (fun x hx => .inl hx)).trans q7 (by simp)
  have hd : ∀ {u : Value} {k : Nat} {xs : List Value}, w.ownsRow w0.heap.size 5 1 u k xs → (w6.setCell ⟨gx, 0, none⟩ (.slice A6 (ms.length + 1) c6)).ownsRow w0.heap.size 5 1 u k xs := fun ho => own_keep ho hcw (fun j hj hm => by
    rcases List.mem_cons.1 hm with e | hm
    · exact own_at_ne ho h.at_ (by decide) j hj e
    · exact own_ne1 ho h.row (by decide) j hj (ob _ _ _ _ hm))
  refine ⟨⟨?_, ?_, fun m hm => ?_, h.new, h.chg.trans hcw (fun x hx => .inr ?_)⟩, hcw⟩
  · rw [List.length_append]; exact x7
  · rw [List.length_append, cUd_app]; exact own_keep hown6 q7 (fun j hj hm => own_at_ne hown6 x6 (by decide) j hj (by simpa using hm))
  · rcases List.mem_append.1 hm with hm | hm
    · exact hd (h.dat m hm)
    · obtain rfl := List.mem_singleton.1 hm
      exact hd hX
  · rcases List.mem_cons.1 hx with rfl | hx
    · exact h.new
    · exact (own_in h.row x hx).1
/-- What 'one more' leaves among all things: its data lay in none of the Net's blocks, or were this one's. -/
def PushPost (w0 : World) (gx : Nat) (A : Option Addr) (ms : List UdV) (w : World) (v : Value) (e : Ending) (w' : World) : Prop :=
  ∃ A' c' X, e = .returned v ∧ RefH w0 w' gx A' c' (ms ++ [X]) ∧ Chg (gx :: blk A) w w' ∧ (∀ j ∈ blk A', j ∈ blk A ∨ w.heap.size ≤ j)
set_option maxRecDepth 100000 in
set_option maxHeartbeats 6400000 in
theorem rlate_yes (h : RefH w0 w gx A c ms) (hl : ms.length ≤ 1024) (hp : 0 < ms.length) (p : Int) (i : Nat) (hpi : pickN p ms.length = i) (mi : UdV) (hmi : ms[i]? = some mi) :
    Calls Try.prog 32 #[.pointer (some ⟨gx, 0, none⟩), .int .i64 p] w fun e w' => ∃ A' c', e = .returned (.bool true) ∧ RefH w0 w' gx A' c' (ms.eraseIdx i ++ [mi]) ∧ Chg [gx] w w' ∧ (∀ j ∈ blk A', w.heap.size ≤ j) := by
  have HT := Lib.hid (rtakes_yes h hl hp p i hpi mi hmi)
  have HM := Lib.hid (h.dat mi (List.mem_of_getElem? hmi))
  have HA := Lib.hid h.at_
  have hel : (ms.eraseIdx i).length ≤ 1024 := Nat.le_trans (List.eraseIdx_sublist _ _).length_le hl
  obtain ⟨i1, hi1, hy0, hy1, hy2⟩ := info_parts info_itm
  obtain ⟨mf, mt, md, mA, mc, msp⟩ := mi
  have hgw := h.at_.lt
  clear h hmi hpi hl hp
  generalize ms.eraseIdx i = ms at *
  suffices HS : Calls Try.prog 32 #[.pointer (some ⟨gx, 0, none⟩), .int .i64 p] w fun e w' => ∃ A' c', e = .returned (.bool true) ∧ RefH w0 w' gx A' c' (ms ++ [⟨mf, mt, md, mA, mc, msp⟩]) ∧ ∃ w1 A1, Chg [gx] w w1 ∧ (∀ j ∈ blk A1, w.heap.size ≤ j) ∧ Chg (gx :: blk A1) w1 w' ∧ (∀ j ∈ blk A', j ∈ blk A1 ∨ w1.heap.size ≤ j) by
    refine HS.mono ?_
    rintro e w' ⟨A', c', rfl, h1, w1, A1, h2, h3, h4, h5⟩
    refine ⟨A', c', rfl, h1, h2.trans h4 (fun x hx => ?_), fun j hj => ?_⟩
    · rcases List.mem_cons.1 hx with rfl | hx
      · exact .inl (by simp)
      · exact .inr (h3 x hx)
    · rcases h5 j hj with h6 | h6
      · exact h3 j h6
      · exact Nat.le_trans h2.size h6
  go_enter Try.func32, Try.ntmps32
  go_wp2_with (fail)
  refine HT.out.mono ?_
  rintro e w1 ⟨A1, c, rfl, h1, hc1, hA1⟩
  have q1 := (Chg.refl [] w1).alloc (.cells #[.int .i64 mf, .int .i64 mt, .slice mA md.length mc, .bool msp] 72)
  have HZ := Lib.hid (h1.keep q1)
  have HBZ := Lib.hid (At.new w1 72 #[.int .i64 mf, .int .i64 mt, .slice mA md.length mc, .bool msp])
  have HOZ := Lib.hid (own_k0 (own_keep HM.out hc1 (fun j hj hj2 => own_at_ne HM.out HA.out (by decide) j hj (by simpa using hj2))) q1)
  have HBA : Hid (∀ j ∈ blk A1, w1.heap.size ≠ j) := fun j hj e => by have := (own_in h1.row j hj).2; omega
  have HC1 := Lib.hid hc1
  have HA1 := Lib.hid hA1
  have HCZ := Lib.hid q1
  have HW1 : Hid (∃ wx Ax, Chg [gx] w wx ∧ (∀ j ∈ blk Ax, w.heap.size ≤ j) ∧ wx = w1 ∧ Ax = A1) := ⟨w1, A1, hc1, hA1, rfl, rfl⟩
  clear HT HM h1 hc1 hA1 q1
  simp only [UdV.cells]
  go_upto_region 3 with (fail)
  generalize w1.alloc (.cells #[.int .i64 mf, .int .i64 mt, .slice mA md.length mc, .bool msp] 72) = wz at *
  generalize hgb : w1.heap.size = gb at *
  generalize hAA : A1 = A at *
  have HBA : Hid (∀ j, j ∈ blk A → gb ≠ j) := HBA
  have HBA : Hid (∀ j, j ∈ blk A → j = gb → False) := fun j hj e => HBA.out j hj e.symm
  have KK : Hid (∀ w', Chg [] wz w' → w'.cell? ⟨gx, 0, none⟩ = some (.slice A ms.length c) ∧ w'.cell? ⟨gb, 0, none⟩ = some (.int .i64 mf) ∧ w'.cell? ⟨gb, 1, none⟩ = some (.int .i64 mt) ∧ w'.cell? ⟨gb, 2, none⟩ = some (.slice mA md.length mc) ∧ w'.cell? ⟨gb, 3, none⟩ = some (.bool msp)) := fun w' hc => ⟨(HZ.out.at_.keep hc (by simp)).cell 0, (HBZ.out.keep hc (by simp)).cell 0, (HBZ.out.keep hc (by simp)).cell 1, (HBZ.out.keep hc (by simp)).cell 2, (HBZ.out.keep hc (by simp)).cell 3⟩
  refine wp_regionE 10 (fun w' => w'.cell? ⟨gx, 0, none⟩ = some (.slice A ms.length c) ∧ w'.cell? ⟨gb, 0, none⟩ = some (.int .i64 mf) ∧ w'.cell? ⟨gb, 1, none⟩ = some (.int .i64 mt) ∧ w'.cell? ⟨gb, 2, none⟩ = some (.slice mA md.length mc) ∧ w'.cell? ⟨gb, 3, none⟩ = some (.bool msp)) (by kernel_rfl) ?_ (fun hHeld => ?_)
  · exact KK.out _ ((Chg.refl [] wz).drew)
  have HDR : Chg [] wz wz.drew := (Chg.refl [] wz).drew
  have HD : Hid (RefH w0 wz.drew gx A c ms) := HZ.out.keep HDR
  have HB : Hid (At wz.drew gb 72 #[.int .i64 mf, .int .i64 mt, .slice mA md.length mc, .bool msp]) := HBZ.out.keep HDR (by simp)
  have HO := Lib.hid (own_k0 HOZ.out HDR)
  have HCB := Lib.hid (HCZ.out.trans HDR (by simp))
  clear HDR HZ HBZ HOZ HCZ KK
  generalize wz.drew = wb at *
  have KB : Hid (∀ w', Chg [] wb w' → w'.cell? ⟨gx, 0, none⟩ = some (.slice A ms.length c) ∧ w'.cell? ⟨gb, 0, none⟩ = some (.int .i64 mf) ∧ w'.cell? ⟨gb, 1, none⟩ = some (.int .i64 mt) ∧ w'.cell? ⟨gb, 2, none⟩ = some (.slice mA md.length mc) ∧ w'.cell? ⟨gb, 3, none⟩ = some (.bool msp)) := fun w' hc => ⟨(HD.out.at_.keep hc (by simp)).cell 0, (HB.out.keep hc (by simp)).cell 0, (HB.out.keep hc (by simp)).cell 1, (HB.out.keep hc (by simp)).cell 2, (HB.out.keep hc (by simp)).cell 3⟩
  refine takeWE (i := 0) (d := (some 14)) (v := ?_) rfl rfl (by kernel_rfl) (by kernel_rfl) (by kernel_rfl) (by kernel_rfl) (by kernel_rfl) (fun _ _ _ h => h) (by rfl) ?_ (by assumption) ?_
  rotate_left
  · intro w' hSw; (try dsimp only at hSw); go_simp; try with_reducible rfl
  try simp only [Act.put, List.setIfInBounds_toArray, List.set_cons_zero, List.set_cons_succ]
  refine takeWE (i := 1) (d := (some 15)) (v := ?_) rfl rfl (by kernel_rfl) (by kernel_rfl) (by kernel_rfl) (by kernel_rfl) (by kernel_rfl) (fun _ _ _ h => h) (by rfl) ?_ (by assumption) ?_
  rotate_left
  · intro w' hSw; (try dsimp only at hSw); go_simp; try with_reducible rfl
  try simp only [Act.put, List.setIfInBounds_toArray, List.set_cons_zero, List.set_cons_succ]
  refine takeWE (i := 2) (d := (some 16)) (v := ?_) rfl rfl (by kernel_rfl) (by kernel_rfl) (by kernel_rfl) (by kernel_rfl) (by kernel_rfl) (fun _ _ _ h => h) (by rfl) ?_ (by assumption) ?_
  rotate_left
  · intro w' hSw; (try dsimp only at hSw); go_simp; try with_reducible rfl
  try simp only [Act.put, List.setIfInBounds_toArray, List.set_cons_zero, List.set_cons_succ]
  refine takeWE (i := 3) (d := (some 17)) (v := ?_) rfl rfl (by kernel_rfl) (by kernel_rfl) (by kernel_rfl) (by kernel_rfl) (by kernel_rfl) (fun _ _ _ h => h) (by rfl) ?_ (by assumption) ?_
  rotate_left
  · intro w' hSw; (try dsimp only at hSw); go_simp; try with_reducible rfl
  try simp only [Act.put, List.setIfInBounds_toArray, List.set_cons_zero, List.set_cons_succ]
  refine takeWE (i := 4) (d := (some 18)) (v := ?_) rfl rfl (by kernel_rfl) (by kernel_rfl) (by kernel_rfl) (by kernel_rfl) (by kernel_rfl) (fun _ _ _ h => h) (by rfl) ?_ (by assumption) ?_
  rotate_left
  · intro w' hSw; (try dsimp only at hSw); go_simp; try with_reducible rfl
  try simp only [Act.put, List.setIfInBounds_toArray, List.set_cons_zero, List.set_cons_succ]
  refine takeWE (i := 5) (d := (some 19)) (v := ?_) rfl rfl (by kernel_rfl) (by kernel_rfl) (by kernel_rfl) (by kernel_rfl) (by kernel_rfl) (fun _ _ _ h => h) (by rfl) ?_ (by assumption) ?_
  rotate_left
  · intro w' hSw; (try dsimp only at hSw); go_simp; try with_reducible rfl
  try simp only [Act.put, List.setIfInBounds_toArray, List.set_cons_zero, List.set_cons_succ]
  refine wpE_ready (rs := [6]) (by kernel_rfl) (by simp) ?_
  refine AllE.cons rfl (fun K hK => ?_) (AllE.nil)
  go_simp
  go_wp2_with (fail)
  refine hK.out _ _ ?_ (fun hHeld => ?_)
  · exact KB.out _ ((Chg.refl [] wb).alloc _)
  clear hK K
  try simp only [Act.put, List.setIfInBounds_toArray, List.set_cons_zero, List.set_cons_succ]
  refine wpE_ready (rs := [7]) (by kernel_rfl) (by simp) ?_
  refine AllE.cons rfl (fun K hK => ?_) (AllE.nil)
  refine wp_append_rd _ (.tmp 18) (.tmp 20) 48 (by rfl) w0.heap.size 72 i1 _ 4 48 Try.underlying48 hi1 hy0 hy1 hy2 rfl (by omega) (.slice A ms.length c) ms.length (cUd ms) (by simp [Act.eval, Act.put]) (own_k0 HD.out.row ((Chg.refl [] wb).alloc _)) (some ⟨wb.heap.size, 0, none⟩) 1 1 (cUd [⟨mf, mt, md, mA, mc, msp⟩]) (by simp [Act.eval, Act.put]) (Rd.new' rfl rfl rfl) (cUd_one _) (by unfold maxLen; omega) (by omega) (by have := HD.out.chg.size; simp; omega) ?_
  intro A6 c6 w6 hown6 hg6 hb6
  have g6 : Chg (blk A) (wb.alloc (.cells #[.int .i64 mf, .int .i64 mt, .slice mA md.length mc, .bool msp] 72)) w6 := (Chg.of_grown hg6).mono (by rw [own_blk]; exact fun _ h => .inl h)
  have qd : Chg [] wb (wb.alloc (.cells #[.int .i64 mf, .int .i64 mt, .slice mA md.length mc, .bool msp] 72)) := (Chg.refl [] wb).alloc _
  have hgA : gx ∉ blk A := fun hm => own_at_ne HD.out.row HD.out.at_ (by decide) gx (ob _ _ _ gx hm) rfl
  have HP := Lib.hid (HD.out.push (X := ⟨mf, mt, md, mA, mc, msp⟩) qd g6 hown6 HO.out)
  have HA6 : Hid (∀ j ∈ blk A6, j ∈ blk A ∨ wb.heap.size ≤ j) := fun j hj => by
    rcases hb6 with h | h
    · rw [h, own_blk] at hj; exact .inl hj
    · rw [h] at hj
      obtain rfl := List.mem_singleton.1 hj
      exact .inr (by simp)
  have x6 := Lib.hid ((HD.out.at_.keep qd (by simp)).keep g6 hgA)
  have fx0 := x6.out.free 0
  have cx0 := x6.out.cell 0
  have HB6 := Lib.hid ((HB.out.keep qd (by simp)).keep g6 (fun hm => HBA.out gb hm rfl))
  refine hK.out _ _ ?_ (fun hHeld => ?_)
  · exact ⟨x6.out.cell 0, HB6.out.cell 0, HB6.out.cell 1, HB6.out.cell 2, HB6.out.cell 3⟩
  clear hK K
  try simp only [Act.put, List.setIfInBounds_toArray, List.set_cons_zero, List.set_cons_succ]
  refine takeWE (i := 8) (d := (some 22)) (v := ?_) rfl rfl (by kernel_rfl) (by kernel_rfl) (by kernel_rfl) (by kernel_rfl) (by kernel_rfl) (fun _ _ _ h => h) (by rfl) ?_ (by assumption) ?_
  rotate_left
  · intro w' hSw; (try dsimp only at hSw); go_simp; try with_reducible rfl
  try simp only [Act.put, List.setIfInBounds_toArray, List.set_cons_zero, List.set_cons_succ]
  refine takeWE (i := 9) (d := (some 23)) (v := ?_) rfl rfl (by kernel_rfl) (by kernel_rfl) (by kernel_rfl) (by kernel_rfl) (by kernel_rfl) (fun _ _ _ h => h) (by rfl) ?_ (by assumption) ?_
  rotate_left
  · intro w' hSw; (try dsimp only at hSw); go_simp; try with_reducible rfl
  try simp only [Act.put, List.setIfInBounds_toArray, List.set_cons_zero, List.set_cons_succ]
  refine wpE_ready (rs := [10]) (by kernel_rfl) (by simp) ?_
  refine AllE.last rfl (by kernel_rfl) (fun K hK => ?_)
  go_simp
  go_wp2_with (fail)
  refine hK.out _ _ ?_
  clear hK K hHeld fx0 cx0
  generalize w6.setCell ⟨gx, 0, none⟩ (.slice A6 (ms.length + 1) c6) = w7 at *
  go_wp2_with (fail)
  go_ret
  exact ⟨A6, c6, rfl, HP.out.1, w1, A, HC1.out, HA1.out, (HCB.out.mono (T := gx :: blk A) (by simp)).trans HP.out.2 (fun x hx => .inl hx), fun j hj => (HA6.out j hj).imp id (fun h => Nat.le_trans HCB.out.size h)⟩
end
end Go.Proofs.Ytbgdcplbekoemaa
