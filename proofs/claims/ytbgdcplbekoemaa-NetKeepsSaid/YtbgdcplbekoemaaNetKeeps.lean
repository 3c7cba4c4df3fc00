
/-
  NetKeeps: the walk of the law.
-/
import Derived.Test.YtbgdcplbekoemaaNetOrd
import Derived.Test.YtbgdcplbekoemaaNetSp
import Derived.Laws.MakeOwn
import Derived.Laws.OwnMore
import Derived.Test.YtbgdcplbekoemaaTake
import Derived.Deep.DeepCutAuto
namespace Go.Proofs.Ytbgdcplbekoemaa
open Go.RowKit
set_option linter.unusedVariables false

/-- The messages that are not marked. -/
def restL : List MV → List Bool → List MV
  | m :: l, false :: o => m :: restL l o
  | _ :: l, true :: o => restL l o
  | _, _ => []
theorem restL_rep : ∀ l : List MV, restL l (List.replicate l.length false) = l
  | [] => rfl
  | m :: l => by rw [List.length_cons, List.replicate_succ, restL, restL_rep l]
theorem restL_mem : ∀ {l : List MV} {o : List Bool} {m : MV}, m ∈ restL l o → ∃ k : Nat, o[k]? = some false ∧ l[k]? = some m
  | m0 :: l, false :: o, m, h => by
    rw [restL] at h
    rcases List.mem_cons.1 h with rfl | h
    · exact ⟨0, rfl, rfl⟩
    · obtain ⟨k, h1, h2⟩ := restL_mem h
      exact ⟨k + 1, h1, h2⟩
  | m0 :: l, true :: o, m, h => by
    rw [restL] at h
    obtain ⟨k, h1, h2⟩ := restL_mem h
    exact ⟨k + 1, h1, h2⟩
  | [], [], m, h => by simp [restL] at h
  | [], a :: o, m, h => by simp [restL] at h
  | a :: l, [], m, h => by simp [restL] at h
theorem restL_sub {l : List MV} {o : List Bool} {m : MV} (h : m ∈ restL l o) : m ∈ l := by
  obtain ⟨k, _, h2⟩ := restL_mem h
  exact List.mem_of_getElem? h2
theorem restL_set : ∀ {l : List MV} {o : List Bool} {k : Nat} {m : MV}, o[k]? = some false → l[k]? = some m → (restL l o).Perm (m :: restL l (o.set k true))
  | m0 :: l, a :: o, 0, m, h1, h2 => by
    simp only [List.getElem?_cons_zero, Option.some.injEq] at h1 h2
    subst h1 h2
    exact List.Perm.refl _
  | m0 :: l, a :: o, k + 1, m, h1, h2 => by
    have h1' : o[k]? = some false := h1
    have h2' : l[k]? = some m := h2
    have ih := restL_set h1' h2'
    rw [List.set_cons_succ]
    cases a
    · rw [restL, restL]
      exact (ih.cons m0).trans (List.Perm.swap _ _ _)
    · rw [restL, restL]
      exact ih
  | [], _, k, m, h1, h2 => by simp at h2
  | a :: l, [], k, m, h1, h2 => by simp at h1
theorem lateL_perm (l : List MV) (p : Int) (hl : 0 < l.length) : (lateL l p).Perm l := by
  unfold lateL
  have h := pickN_lt (p := p) hl
  rw [List.getElem?_eq_getElem h]
  have h1 := perm_front l _ _ (List.getElem?_eq_getElem h)
  exact List.perm_append_comm.trans h1.symm
theorem lateL_perm' (l : List MV) (p : Int) : (lateL l p).Perm l := by
  by_cases h : 0 < l.length
  · exact lateL_perm l p h
  · obtain rfl : l = [] := by cases l with
      | nil => rfl
      | cons a l => simp at h
    exact List.Perm.refl _
def cNI (l : List Int) : List Value := l.map fun z => .int .i64 z
theorem cNI_eq (l : List Int) : (l.flatMap fun z => [Value.int .i64 z]) = cNI l := by
  induction l with
  | nil => rfl
  | cons a l ih => simp [cNI] at ih ⊢; exact ih
theorem cNI_get {l : List Int} {k : Nat} (h : k < l.length) : (cNI l)[k]? = some (.int .i64 l[k]) := by simp [cNI, h]
def cBo (o : List Bool) : List Value := o.map Value.bool
theorem NetA.store {w0 w : World} {gn : Nat} {l : List MV} {rs : List Res} {e : TypeId} {size g n c : Nat} {xs : List Value} (h : NetA w0 w gn l (rOwn e size (some ⟨g, 0, none⟩) n c xs :: rs)) (k : Nat) (u : Value) :
    NetA w0 (w.setCell ⟨g, k, none⟩ u) gn l (rOwn e size (some ⟨g, 0, none⟩) n c (xs.set k u) :: rs) := by
  have h0 := h.at_ 0 rfl
  refine h.beside fun r H => ?_
  have hc : Chg (rOwn e size (some ⟨g, 0, none⟩) n c xs).F w (w.setCell ⟨g, k, none⟩ u) := (Chg.refl _ _).setCell (.inl (by simp [rOwn, blk])) _
  exact H.same hc (own_setN h0 k u) (rOwn_stable _ _ _ _ _ _ _)
/-- Give, whichever is picked. -/
theorem give_some {w0 w : World} {gn : Nat} {l : List MV} {rs : List Res} (h : NetA w0 w gn l rs) (hl : l.length ≤ 1024) (hp : 0 < l.length) (p : Int) :
    Calls Try.prog 13 #[.pointer (some ⟨gn, 0, none⟩), .int .i64 p] w fun e w' => ∃ i m B c2, e = .returned (.tuple #[.agg #[.int .i64 m.f, .int .i64 m.t, .slice B m.d.length c2], .bool true]) ∧ l[i]? = some m ∧ NetA w0 w' gn (l.eraseIdx i) (rRow 0 5 B m.d.length c2 (cB m.d) :: rs) ∧ w.heap.size ≤ w'.heap.size := by
  have hm := List.getElem?_eq_getElem (pickN_lt (p := p) hp)
  refine (give_all h hl hp p _ rfl _ hm).mono ?_
  rintro e w' ⟨B, c2, rfl, h', hs⟩
  exact ⟨_, _, B, c2, rfl, hm, h', hs⟩
/-- Is the j-th message the one that came, and not marked? -/
def MatchN (ls : List MsgV) (o : List Bool) (mf mt : Int) (md : List UInt8) (j : Nat) : Prop := o[j]? = some false ∧ (ls.map MsgV.val)[j]? = some ⟨mf, mt, md, false⟩
def AtN (ls : List MsgV) (o : List Bool) (mf mt : Int) (md : List UInt8) (q : Nat) (z : Int) : Prop := (z = -1 ∧ ∀ j < q, ¬ MatchN ls o mf mt md j) ∨ ∃ a : Nat, z = a ∧ a < q ∧ MatchN ls o mf mt md a
set_option maxRecDepth 100000 in
set_option maxHeartbeats 12800000 in
theorem netKeeps_law (w : World) (x : Sl MsgV) (hx : Rd w 3 x.A x.ls.length (x.ls.flatMap MsgV.cells) ∧ x.ls.length ≤ x.c ∧ x.c ≤ maxLen ∧ x.ls.length * 40 ≤ 140737488351232 ∧ ∀ a ∈ x.ls, a.Op w)
    (y : Sl Int) (hy : Rd w 1 y.A y.ls.length (y.ls.flatMap fun z => [.int .i64 z]) ∧ y.ls.length ≤ y.c ∧ y.c ≤ maxLen ∧ y.ls.length * 8 ≤ 140737488351232 ∧ ∀ z ∈ y.ls, (Lit.int .i64 z).wf = true)
    (v : Sl Int) (hv : Rd w 1 v.A v.ls.length (v.ls.flatMap fun z => [.int .i64 z]) ∧ v.ls.length ≤ v.c ∧ v.c ≤ maxLen ∧ v.ls.length * 8 ≤ 140737488351232 ∧ ∀ z ∈ v.ls, (Lit.int .i64 z).wf = true) :
    Calls Try.prog 3 #[.slice x.A x.ls.length x.c, .slice y.A y.ls.length y.c, .slice v.A v.ls.length v.c] w fun e w' => e = .returned (.bool true) ∧ Chg [] w w' := by
  obtain ⟨i0, hi, hz0, hz1, hz2⟩ := info_parts (show (Try.prog.info? 4).map (fun i => (i.zero, i.size, i.bytes)) = some (some (.bool false), 1, 1) by kernel_rfl)
  obtain ⟨A, c, ls⟩ := x
  obtain ⟨Y, yc, ys⟩ := y
  obtain ⟨V, vc, vs⟩ := v
  obtain ⟨rx, hxc, hxm, hxl, hxs⟩ := hx
  obtain ⟨ry, _, _, hyl, _⟩ := hy
  obtain ⟨rv, _, _, hvl, _⟩ := hv
  simp only at rx hxc hxm hxl hxs ry hyl rv hvl ⊢
  rw [cNI_eq] at ry rv
  have RX : Hid (Rd w 3 A ls.length (cMs ls)) := rx
  have RY := Lib.hid ry
  have RV := Lib.hid rv
  have HXS := Lib.hid hxs
  have HH1 := Lib.hid (heavyN_one (w.alloc (.cells #[.int .i64 0, .int .i64 0, .int .i64 0, .int .u8 0, .slice A ls.length c] 26)) w.heap.size A c ls (At.new _ _ _) (RX.out.alloc _) hxc hxm hxl (fun x hx => (hxs x hx).k ((Chg.refl [] w).alloc _)))
  clear rx ry rv hxs
  go_enter Try.func3, Try.ntmps3
  go_wp2_with (fail)
  refine HH1.out.mono ?_
  rintro e w1 ⟨hv, rfl, rfl, hlight⟩
  clear HH1
  have HCA : Hid (Chg [] w (w.alloc (.cells #[.int .i64 0, .int .i64 0, .int .i64 0, .int .u8 0, .slice A ls.length c] 26))) := (Chg.refl _ _).alloc _
  cases hv
  rotate_left
  · go_wp2_with (fail)
    go_ret
    exact ⟨rfl, HCA.out⟩
  have HL1 := Lib.hid (hlight rfl)
  clear hlight
  cases hl2 : decide ((200 : Int) < (ls.length : Int))
  rotate_left
  · go_wp2_with (fail)
    go_ret
    exact ⟨rfl, HCA.out⟩
  cases hl3 : decide ((200 : Int) < (ys.length : Int))
  rotate_left
  · go_wp2_with (fail)
    go_ret
    exact ⟨rfl, HCA.out⟩
  have hls : ls.length ≤ 200 := by have := of_decide_eq_false hl2; omega
  have hys : ys.length ≤ 200 := by have := of_decide_eq_false hl3; omega
  have M1 : Hid (MsIn w A ls) := ⟨RX.out, fun x hx => ⟨(HXS.out x hx).rd, (HXS.out x hx).nil, Nat.le_trans (HL1.out.2 x hx) (by omega)⟩⟩
  have ML : Hid (∀ x ∈ ls, x.d.length ≤ 8000) := HL1.out.2
  clear HXS HL1
  generalize w.alloc (.cells #[.int .i64 0, .int .i64 0, .int .i64 0, .int .u8 0, .slice A ls.length c] 26) = w2 at *
  go_wp2_with (fail)
  refine (new_all ((All.start w).quiet HCA.out)).mono ?_
  rintro e w3 ⟨gn, rfl, H1, hs1, hgn⟩
  have HN := Lib.hid H1
  clear H1 HCA hl2 hl3
  go_wp2_with (fail)
  refine (send_whole A _ c ls rfl M1.out HN.out (by simp; omega)).mono ?_
  rintro e w4 ⟨rfl, H2, hs2⟩
  rw [List.nil_append] at H2
  clear HN
  have HN := Lib.hid H2
  clear H2
  have HVL : Hid (∀ m ∈ ls.map MsgV.val, m.d.length ≤ 8000 ∧ m.sp = false) := fun m hm => by
    obtain ⟨x, hx, rfl⟩ := List.mem_map.1 hm
    exact ⟨ML.out x hx, rfl⟩
  go_wp2_with (fail)
  go_loopw [8] (fun i wr => ∃ k : Nat, k ≤ ys.length ∧ i = .int .i64 k ∧ Hid (∃ N, NetA w wr gn N [] ∧ N.Perm (ls.map MsgV.val))) (fun i _ => ys.length - (intOf i).toNat)
  case atStart => exact ⟨0, Nat.zero_le _, rfl, _, HN.out, List.Perm.refl _⟩
  case round =>
    obtain ⟨k, hk, rfl, HK⟩ := hrel
    by_cases hlt : k < ys.length
    · obtain ⟨N, HN, hN⟩ := HK.out
      have hNl : N.length ≤ 1024 := by rw [hN.length_eq, List.length_map]; omega
      have HLt := Lib.hid (fun p => late_all HN hNl (fun m hm => Nat.le_trans (HVL.out m (hN.mem_iff.1 hm)).1 (by omega)) p)
      have HP := Lib.hid hN
      obtain ⟨ad, u, rfl, had, hu, hcell⟩ := (RY.out.keep0 HN.chg).get hlt
      obtain rfl : Value.int .i64 ys[k] = u := by rw [cNI_get hlt] at hu; simpa using hu
      clear HN hN HK hu
      generalize ys[k] = p at *
      have hki : (k : Int) < (ys.length : Int) := by omega
      go_wp2_with (fail)
      refine (HLt.out p).mono ?_
      rintro e w5 ⟨rfl, H5, hs5⟩
      have HK5 : Hid (∃ N, NetA w w5 gn N [] ∧ N.Perm (ls.map MsgV.val)) := ⟨_, H5, (lateL_perm' N p).trans HP.out⟩
      clear H5 HLt
      go_wp2_with (fail)
      go_roundw
      case rel => exact ⟨k + 1, by omega, by go_num, HK5⟩
      case measure => simp [intOf]; omega
    · obtain rfl : k = ys.length := by omega
      obtain ⟨N, HN, hN⟩ := HK.out
      have HN2 := Lib.hid HN
      have HP := Lib.hid hN
      have hki : ¬ (ys.length : Int) < (ys.length : Int) := by omega
      have mk := fun w1 => run_make (P := Try.prog) w1 32 4 i0 (.bool false) Try.underlying32 hi hz0 .i64 .i64 (ls.length : Int) (ls.length : Int) (by omega) (Int.le_refl _) (by rw [hz2]; omega) (by omega)
      simp only [Int.toNat_natCast, hz1, Nat.mul_one] at mk
      clear HN hN HK
      go_wp2_with (fail)
      have ho : (wr.alloc (.cells (madeCells #[.bool false] ls.length) 4)).ownsRow wr.heap.size 4 1 (.slice (some ⟨wr.heap.size, 0, none⟩) ls.length ls.length) ls.length (cBo (List.replicate ls.length false)) := by
        have h := World.ownsRow_lit (base := wr.heap.size) (e := 4) (size := 1) wr (madeCells #[.bool false] ls.length) ls.length (Nat.le_refl _) (by unfold maxLen; omega) (by simp [madeCells])
        rw [toList_madeCells_one] at h
        simpa [cBo] using h
      have HO := Lib.hid (HN2.out.rowS ((Chg.refl [] wr).alloc _) ho)
      clear mk ho HN2
      generalize hgo : wr.heap.size = go at *
      generalize wr.alloc (.cells (madeCells #[.bool false] ls.length) 4) = w5 at *
      go_loopw [10] (fun i wr => ∃ (k : Nat) (o : List Bool), k ≤ ls.length ∧ i = .int .i64 k ∧ Hid (o.length = ls.length ∧ ∃ N, NetA w wr gn N [rOwn 4 1 (some ⟨go, 0, none⟩) ls.length ls.length (cBo o)] ∧ N.Perm (restL (ls.map MsgV.val) o) ∧ N.length = ls.length - k)) (fun i _ => ls.length - (intOf i).toNat)
      case atStart => exact ⟨0, List.replicate ls.length false, Nat.zero_le _, rfl, List.length_replicate, N, HO.out, by
        have h := restL_rep (ls.map MsgV.val)
        rw [List.length_map] at h
        rw [h]; exact HP.out, by rw [HP.out.length_eq, List.length_map]; rfl⟩
      case round =>
        clear HO HP N
        obtain ⟨k, o, hk, rfl, HK⟩ := hrel
        by_cases hlt : k < ls.length
        · obtain ⟨hol, N, HN, hN, hNl⟩ := HK.out
          have HG := Lib.hid (fun p => give_some HN (by omega) (by omega) p)
          have HNP := Lib.hid hN
          have HNl := Lib.hid hNl
          have Hol := Lib.hid hol
          have hRV := (RV.out.keep0 HN.chg)
          have hki : (k : Int) < (ls.length : Int) := by omega
          clear HN hN hNl HK hol
          by_cases hlv : k < vs.length
          case' pos =>
            obtain ⟨ad, u, rfl, had, hu, hcell⟩ := hRV.get hlv
            obtain rfl : Value.int .i64 vs[k] = u := by rw [cNI_get hlv] at hu; simpa using hu
            have hkv : (k : Int) < (vs.length : Int) := by omega
            generalize vs[k] = p at *
            clear hu hRV
            go_wp2_with (fail)
          case' neg =>
            have hkv : ¬ (k : Int) < (vs.length : Int) := by omega
            clear hRV
            go_wp2_with (fail)
          all_goals
            clear hkv hlv
            refine (HG.out _).mono ?_
            rintro e w8 ⟨i, m, D, c8, rfl, hm, H8, hs8⟩
            have HN8 := Lib.hid H8
            have hmv := HVL.out m ((restL_sub (HNP.out.mem_iff.1 (List.mem_of_getElem? hm))))
            have HPm : Hid ((m :: N.eraseIdx i).Perm (restL (ls.map MsgV.val) o)) := (perm_front N i m hm).symm.trans HNP.out
            have HEl : Hid ((N.eraseIdx i).length = ls.length - (k + 1)) := by
              have h1 := (perm_front N i m hm).length_eq
              rw [List.length_cons, HNl.out] at h1
              unfold Hid; omega
            clear H8 HG HNP HNl hm
            generalize N.eraseIdx i = N2 at *
            clear N
            obtain ⟨mf, mt, md, msp⟩ := m
            obtain ⟨hmd, rfl⟩ := hmv
            simp only at hmd HN8
            have HEx : Hid (∃ a, a < ls.length ∧ MatchN ls o mf mt md a) := by
              obtain ⟨a, h1, h2⟩ := restL_mem (HPm.out.mem_iff.1 List.mem_cons_self)
              exact ⟨a, by have := (List.getElem?_eq_some_iff.1 h2).1; simpa using this, h1, h2⟩
            have HPu : Hid (∀ a, MatchN ls o mf mt md a → N2.Perm (restL (ls.map MsgV.val) (o.set a true))) := fun a h =>
              (List.perm_cons _).1 (HPm.out.trans (restL_set h.1 h.2))
            have q9 := (Chg.refl [] w8).alloc (.cells #[.int .i64 mf, .int .i64 mt, .slice D md.length c8] 35)
            have Z9 := Lib.hid (At.new w8 35 #[.int .i64 mf, .int .i64 mt, .slice D md.length c8])
            have HN9 := Lib.hid (HN8.out.quiet q9)
            clear HN8 HPm q9
            go_wp2_with (fail)
            generalize hgb : w8.heap.size = gb at *
            generalize w8.alloc (.cells #[.int .i64 mf, .int .i64 mt, .slice D md.length c8] 35) = w9 at *
            have RDQ : Hid (∀ w', Chg [] w9 w' → Rd w' 1 D md.length (cB md)) := fun w' hc => (Rd.of_own (HN9.out.at_ 0 rfl)).keep0 hc
            have RO : Hid (∀ w', Chg [] w9 w' → Rd w' 1 (some ⟨go, 0, none⟩) ls.length (cBo o)) := fun w' hc => (Rd.of_own (HN9.out.at_ 1 rfl)).keep0 hc
            have MQ : Hid (∀ w', Chg [] w9 w' → MsIn w' A ls) := fun w' hc => M1.out.k (HN9.out.chg.trans hc (by simp))
            go_loopw [15, 14] (fun kk av wr => ∃ (q : Nat) (z : Int), q ≤ ls.length ∧ kk = .int .i64 q ∧ av = .int .i64 z ∧ Hid (AtN ls o mf mt md q z) ∧ Hid (Chg [] w9 wr)) (fun kk _ _ => ls.length - (intOf kk).toNat)
            case atStart => exact ⟨0, -1, Nat.zero_le _, rfl, rfl, .inl ⟨rfl, fun j hj => by omega⟩, Chg.refl _ _⟩
            case round =>
              obtain ⟨q, z, hq, rfl, rfl, HAt, hcq⟩ := hrel
              by_cases hqt : q < ls.length
              · have hqi : (q : Int) < (ls.length : Int) := by omega
                obtain ⟨ad, hA, had, g0, g1, g2⟩ := (MQ.out _ hcq.out).get3 hqt
                subst hA
                obtain ⟨b, hb⟩ : ∃ b, o[q]? = some b := ⟨_, List.getElem?_eq_getElem (by rw [Hol.out]; exact hqt)⟩
                have y0 : wr.cell? ⟨go, q, none⟩ = some (.bool b) := by
                  obtain ⟨a2, h1, _, h2⟩ := (RO.out _ hcq.out).at_ (by omega)
                  obtain rfl : a2 = ⟨go, 0, none⟩ := by injection h1 with h1; exact h1.symm
                  have := h2 q (.bool b) (by simp [cBo, hb])
                  have e : (⟨go, 0, none⟩ : Addr).add q = ⟨go, q, none⟩ := by unfold Addr.add; split <;> simp_all
                  rwa [e] at this
                have hgol : go < wr.heap.size := by
                  obtain ⟨a2, h1, h3, _⟩ := (RO.out _ hcq.out).at_ (by omega)
                  obtain rfl : a2 = ⟨go, 0, none⟩ := by injection h1 with h1; exact h1.symm
                  exact h3
                have hx1 := (MQ.out _ hcq.out).each _ (List.getElem_mem hqt)
                have RXQ : Hid (∀ w', Chg [] wr w' → Rd w' 1 ls[q].A ls[q].d.length (cB ls[q].d)) := fun w' hc => hx1.rd.keep0 hc
                have hxd : Hid (ls[q].d.length ≤ 140737488355328) := Nat.le_trans hx1.dl (by omega)
                have HMt : Hid (MatchN ls o mf mt md q ↔ b = false ∧ decide (ls[q].f = mf ∧ ls[q].t = mt ∧ ls[q].d = md) = true) := by
                  unfold Hid MatchN
                  rw [hb, List.getElem?_map, List.getElem?_eq_getElem hqt]
                  simp [MsgV.val]
                have hadk : (ad.add (q * 3)).block < wr.heap.size := by rw [add_block]; exact had
                have zz := Z9.out.keep hcq.out (by simp)
                generalize ls[q] = x at *
                obtain ⟨xf, xt, xd, xA, xcp⟩ := x
                simp only at g0 g1 g2 RXQ hxd HMt
                have KKa : Hid (∀ w', Chg [] wr w' → w'.cell? ⟨gb, 0, none⟩ = some (.int .i64 mf) ∧ w'.cell? ⟨gb, 1, none⟩ = some (.int .i64 mt) ∧ w'.cell? ⟨gb, 2, none⟩ = some (.slice D md.length c8) ∧ w'.cell? (ad.add (q * 3)) = some (.int .i64 xf) ∧ w'.cell? ⟨(ad.add (q * 3)).block, (ad.add (q * 3)).off + 1, none⟩ = some (.int .i64 xt) ∧ w'.cell? ⟨(ad.add (q * 3)).block, (ad.add (q * 3)).off + 2, none⟩ = some (.slice xA xd.length xcp) ∧ w'.cell? ⟨go, q, none⟩ = some (.bool b)) := fun w' hc => ⟨(zz.keep hc (by simp)).cell 0, (zz.keep hc (by simp)).cell 1, (zz.keep hc (by simp)).cell 2, (hc.cell hadk (by simp)).trans g0, (hc.cell (p := ⟨(ad.add (q * 3)).block, (ad.add (q * 3)).off + 1, none⟩) hadk (by simp)).trans g1, (hc.cell (p := ⟨(ad.add (q * 3)).block, (ad.add (q * 3)).off + 2, none⟩) hadk (by simp)).trans g2, (hc.cell (p := ⟨go, q, none⟩) hgol (by simp)).trans y0⟩
                clear g0 g1 g2 y0 zz hx1 had hadk
                cases hz : decide (z < 0)
                · have HA2 : Hid (AtN ls o mf mt md (q + 1) z) := by
                    have hz' := of_decide_eq_false hz
                    rcases HAt.out with ⟨h1, _⟩ | ⟨a, h1, h2, h3⟩
                    · omega
                    · exact .inr ⟨a, h1, by omega, h3⟩
                  have KK := KKa
                  clear HAt HMt KKa
                  go_wp2_with (fail)
                  refine wp_region_held_drew (S := fun w' => w'.cell? ⟨gb, 0, none⟩ = some (.int .i64 mf) ∧ w'.cell? ⟨gb, 1, none⟩ = some (.int .i64 mt) ∧ w'.cell? ⟨gb, 2, none⟩ = some (.slice D md.length c8) ∧ w'.cell? (ad.add (q * 3)) = some (.int .i64 xf) ∧ w'.cell? ⟨(ad.add (q * 3)).block, (ad.add (q * 3)).off + 1, none⟩ = some (.int .i64 xt) ∧ w'.cell? ⟨(ad.add (q * 3)).block, (ad.add (q * 3)).off + 2, none⟩ = some (.slice xA xd.length xcp) ∧ w'.cell? ⟨go, q, none⟩ = some (.bool b)) (by kernel_rfl) ?_ (fun hHeld => ?_)
                  · exact KK.out _ ((Chg.refl [] wr).drewN 1)
                  refine takeW (i := 0) (d := (some 82)) (v := ?_) rfl rfl (by kernel_rfl) (by kernel_rfl) (by kernel_rfl) (fun _ _ _ h => h) (by rfl) ?_ (by assumption) ?_
                  rotate_left
                  · intro w' hSw; (try dsimp only at hSw); go_simp; try with_reducible rfl
                  try simp only [Act.put, List.setIfInBounds_toArray, List.set_cons_zero, List.set_cons_succ]
                  refine takeW (i := 1) (d := (some 83)) (v := ?_) rfl rfl (by kernel_rfl) (by kernel_rfl) (by kernel_rfl) (fun _ _ _ h => h) (by rfl) ?_ (by assumption) ?_
                  rotate_left
                  · intro w' hSw; (try dsimp only at hSw); go_simp; try with_reducible rfl
                  try simp only [Act.put, List.setIfInBounds_toArray, List.set_cons_zero, List.set_cons_succ]
                  refine takeW (i := 2) (d := (some 84)) (v := ?_) rfl rfl (by kernel_rfl) (by kernel_rfl) (by kernel_rfl) (fun _ _ _ h => h) (by rfl) ?_ (by assumption) ?_
                  rotate_left
                  · intro w' hSw; (try dsimp only at hSw); go_simp; try with_reducible rfl
                  try simp only [Act.put, List.setIfInBounds_toArray, List.set_cons_zero, List.set_cons_succ]
                  refine takeU (i := 3) (d := (some 85)) rfl rfl (by kernel_rfl) (by kernel_rfl) (by kernel_rfl) (fun _ _ _ h => h) (by rfl) (by assumption) ?_
                  try simp only [Act.put, List.setIfInBounds_toArray, List.set_cons_zero, List.set_cons_succ]
                  refine takeU (i := 4) (d := (some 86)) rfl rfl (by kernel_rfl) (by kernel_rfl) (by kernel_rfl) (fun _ _ _ h => h) (by rfl) (by assumption) ?_
                  try simp only [Act.put, List.setIfInBounds_toArray, List.set_cons_zero, List.set_cons_succ]
                  refine takeU (i := 5) (d := (some 87)) rfl rfl (by kernel_rfl) (by kernel_rfl) (by kernel_rfl) (fun _ _ _ h => h) (by rfl) (by assumption) ?_
                  try simp only [Act.put, List.setIfInBounds_toArray, List.set_cons_zero, List.set_cons_succ]
                  refine takeU (i := 6) (d := (some 88)) rfl rfl (by kernel_rfl) (by kernel_rfl) (by kernel_rfl) (fun _ _ _ h => h) (by rfl) (by assumption) ?_
                  try simp only [Act.put, List.setIfInBounds_toArray, List.set_cons_zero, List.set_cons_succ]
                  refine takeU (i := 7) (d := (some 89)) rfl rfl (by kernel_rfl) (by kernel_rfl) (by kernel_rfl) (fun _ _ _ h => h) (by rfl) (by assumption) ?_
                  try simp only [Act.put, List.setIfInBounds_toArray, List.set_cons_zero, List.set_cons_succ]
                  refine takeW (i := 8) (d := (some 90)) (v := ?_) rfl rfl (by kernel_rfl) (by kernel_rfl) (by kernel_rfl) (fun _ _ _ h => h) (by rfl) ?_ (by assumption) ?_
                  rotate_left
                  · intro w' hSw; (try dsimp only at hSw); go_simp; try with_reducible rfl
                  try simp only [Act.put, List.setIfInBounds_toArray, List.set_cons_zero, List.set_cons_succ]
                  refine takeW (i := 9) (d := (some 91)) (v := ?_) rfl rfl (by kernel_rfl) (by kernel_rfl) (by kernel_rfl) (fun _ _ _ h => h) (by rfl) ?_ (by assumption) ?_
                  rotate_left
                  · intro w' hSw; (try dsimp only at hSw); go_simp; try with_reducible rfl
                  try simp only [Act.put, List.setIfInBounds_toArray, List.set_cons_zero, List.set_cons_succ]
                  refine takeU (i := 10) (d := (some 92)) rfl rfl (by kernel_rfl) (by kernel_rfl) (by kernel_rfl) (fun _ _ _ h => h) (by rfl) (by assumption) ?_
                  try simp only [Act.put, List.setIfInBounds_toArray, List.set_cons_zero, List.set_cons_succ]
                  refine takeU (i := 11) (d := (some 93)) rfl rfl (by kernel_rfl) (by kernel_rfl) (by kernel_rfl) (fun _ _ _ h => h) (by rfl) (by assumption) ?_
                  try simp only [Act.put, List.setIfInBounds_toArray, List.set_cons_zero, List.set_cons_succ]
                  refine takeU (i := 12) (d := (some 94)) rfl rfl (by kernel_rfl) (by kernel_rfl) (by kernel_rfl) (fun _ _ _ h => h) (by rfl) (by assumption) ?_
                  try simp only [Act.put, List.setIfInBounds_toArray, List.set_cons_zero, List.set_cons_succ]
                  refine takeU (i := 13) (d := (some 95)) rfl rfl (by kernel_rfl) (by kernel_rfl) (by kernel_rfl) (fun _ _ _ h => h) (by rfl) (by assumption) ?_
                  try simp only [Act.put, List.setIfInBounds_toArray, List.set_cons_zero, List.set_cons_succ]
                  refine takeU (i := 14) (d := (some 96)) rfl rfl (by kernel_rfl) (by kernel_rfl) (by kernel_rfl) (fun _ _ _ h => h) (by rfl) (by assumption) ?_
                  try simp only [Act.put, List.setIfInBounds_toArray, List.set_cons_zero, List.set_cons_succ]
                  refine takeU (i := 15) (d := (some 97)) rfl rfl (by kernel_rfl) (by kernel_rfl) (by kernel_rfl) (fun _ _ _ h => h) (by rfl) (by assumption) ?_
                  try simp only [Act.put, List.setIfInBounds_toArray, List.set_cons_zero, List.set_cons_succ]
                  refine takeW (i := 16) (d := (some 98)) (v := ?_) rfl rfl (by kernel_rfl) (by kernel_rfl) (by kernel_rfl) (fun _ _ _ h => h) (by rfl) ?_ (by assumption) ?_
                  rotate_left
                  · intro w' hSw; (try dsimp only at hSw); go_simp; try with_reducible rfl
                  try simp only [Act.put, List.setIfInBounds_toArray, List.set_cons_zero, List.set_cons_succ]
                  refine wpAnyH_done (by kernel_rfl) ?_ _
                  go_wp2_with (fail)
                  go_roundw
                  case rel => exact ⟨q + 1, z, by omega, by go_num, rfl, HA2, (hcq.out.drewN 1)⟩
                  case measure => simp [intOf]; omega
                · have hz1 : z = -1 := by
                    have hz' := of_decide_eq_true hz
                    rcases HAt.out with ⟨h1, _⟩ | ⟨a, h1, h2, h3⟩
                    · exact h1
                    · omega
                  subst hz1
                  have HNo : Hid (∀ j < q, ¬ MatchN ls o mf mt md j) := by
                    rcases HAt.out with ⟨_, h1⟩ | ⟨a, h1, h2, h3⟩
                    · exact h1
                    · omega
                  clear hz HAt
                  cases b
                  · obtain ⟨r, hr⟩ : ∃ r, Hid (decide (xf = mf ∧ xt = mt ∧ xd = md) = r) := ⟨_, rfl⟩
                    have HM2 : Hid (MatchN ls o mf mt md q ↔ r = true) := by unfold Hid; rw [HMt.out, hr.out]; simp
                    have KK := KKa
                    have RDW : Hid (∀ w', Chg [] wr w' → Rd w' 1 D md.length (cB md)) := fun w' hc => RDQ.out _ (hcq.out.trans hc (by simp))
                    clear HMt KKa
                    go_wp2_with (fail)
                    refine wp_region_held_drew (S := fun w' => w'.cell? ⟨gb, 0, none⟩ = some (.int .i64 mf) ∧ w'.cell? ⟨gb, 1, none⟩ = some (.int .i64 mt) ∧ w'.cell? ⟨gb, 2, none⟩ = some (.slice D md.length c8) ∧ w'.cell? (ad.add (q * 3)) = some (.int .i64 xf) ∧ w'.cell? ⟨(ad.add (q * 3)).block, (ad.add (q * 3)).off + 1, none⟩ = some (.int .i64 xt) ∧ w'.cell? ⟨(ad.add (q * 3)).block, (ad.add (q * 3)).off + 2, none⟩ = some (.slice xA xd.length xcp) ∧ w'.cell? ⟨go, q, none⟩ = some (.bool false)) (by kernel_rfl) ?_ (fun hHeld => ?_)
                    · exact KK.out _ ((Chg.refl [] wr).drewN 1)
                    refine takeW (i := 0) (d := (some 82)) (v := ?_) rfl rfl (by kernel_rfl) (by kernel_rfl) (by kernel_rfl) (fun _ _ _ h => h) (by rfl) ?_ (by assumption) ?_
                    rotate_left
                    · intro w' hSw; (try dsimp only at hSw); go_simp; try with_reducible rfl
                    try simp only [Act.put, List.setIfInBounds_toArray, List.set_cons_zero, List.set_cons_succ]
                    refine takeW (i := 1) (d := (some 83)) (v := ?_) rfl rfl (by kernel_rfl) (by kernel_rfl) (by kernel_rfl) (fun _ _ _ h => h) (by rfl) ?_ (by assumption) ?_
                    rotate_left
                    · intro w' hSw; (try dsimp only at hSw); go_simp; try with_reducible rfl
                    try simp only [Act.put, List.setIfInBounds_toArray, List.set_cons_zero, List.set_cons_succ]
                    refine takeW (i := 2) (d := (some 84)) (v := ?_) rfl rfl (by kernel_rfl) (by kernel_rfl) (by kernel_rfl) (fun _ _ _ h => h) (by rfl) ?_ (by assumption) ?_
                    rotate_left
                    · intro w' hSw; (try dsimp only at hSw); go_simp; try with_reducible rfl
                    try simp only [Act.put, List.setIfInBounds_toArray, List.set_cons_zero, List.set_cons_succ]
                    refine takeW (i := 3) (d := (some 85)) (v := ?_) rfl rfl (by kernel_rfl) (by kernel_rfl) (by kernel_rfl) (fun _ _ _ h => h) (by rfl) ?_ (by assumption) ?_
                    rotate_left
                    · intro w' hSw; (try dsimp only at hSw); go_simp; try with_reducible rfl
                    try simp only [Act.put, List.setIfInBounds_toArray, List.set_cons_zero, List.set_cons_succ]
                    refine takeW (i := 4) (d := (some 86)) (v := ?_) rfl rfl (by kernel_rfl) (by kernel_rfl) (by kernel_rfl) (fun _ _ _ h => h) (by rfl) ?_ (by assumption) ?_
                    rotate_left
                    · intro w' hSw; (try dsimp only at hSw); go_simp; try with_reducible rfl
                    try simp only [Act.put, List.setIfInBounds_toArray, List.set_cons_zero, List.set_cons_succ]
                    refine takeW (i := 5) (d := (some 87)) (v := ?_) rfl rfl (by kernel_rfl) (by kernel_rfl) (by kernel_rfl) (fun _ _ _ h => h) (by rfl) ?_ (by assumption) ?_
                    rotate_left
                    · intro w' hSw; (try dsimp only at hSw); go_simp; try with_reducible rfl
                    try simp only [Act.put, List.setIfInBounds_toArray, List.set_cons_zero, List.set_cons_succ]
                    refine takeW (i := 6) (d := (some 88)) (v := ?_) rfl rfl (by kernel_rfl) (by kernel_rfl) (by kernel_rfl) (fun _ _ _ h => h) (by rfl) ?_ (by assumption) ?_
                    rotate_left
                    · intro w' hSw; (try dsimp only at hSw); go_simp; try with_reducible rfl
                    try simp only [Act.put, List.setIfInBounds_toArray, List.set_cons_zero, List.set_cons_succ]
                    refine takeW (i := 7) (d := (some 89)) (v := ?_) rfl rfl (by kernel_rfl) (by kernel_rfl) (by kernel_rfl) (fun _ _ _ h => h) (by rfl) ?_ (by assumption) ?_
                    rotate_left
                    · intro w' hSw; (try dsimp only at hSw); go_simp; try with_reducible rfl
                    try simp only [Act.put, List.setIfInBounds_toArray, List.set_cons_zero, List.set_cons_succ]
                    refine takeW (i := 8) (d := (some 90)) (v := ?_) rfl rfl (by kernel_rfl) (by kernel_rfl) (by kernel_rfl) (fun _ _ _ h => h) (by rfl) ?_ (by assumption) ?_
                    rotate_left
                    · intro w' hSw; (try dsimp only at hSw); go_simp; try with_reducible rfl
                    try simp only [Act.put, List.setIfInBounds_toArray, List.set_cons_zero, List.set_cons_succ]
                    refine takeW (i := 9) (d := (some 91)) (v := ?_) rfl rfl (by kernel_rfl) (by kernel_rfl) (by kernel_rfl) (fun _ _ _ h => h) (by rfl) ?_ (by assumption) ?_
                    rotate_left
                    · intro w' hSw; (try dsimp only at hSw); go_simp; try with_reducible rfl
                    try simp only [Act.put, List.setIfInBounds_toArray, List.set_cons_zero, List.set_cons_succ]
                    refine takeW (i := 10) (d := (some 92)) (v := ?_) rfl rfl (by kernel_rfl) (by kernel_rfl) (by kernel_rfl) (fun _ _ _ h => h) (by rfl) ?_ (by assumption) ?_
                    rotate_left
                    · intro w' hSw; (try dsimp only at hSw); go_simp; try with_reducible rfl
                    try simp only [Act.put, List.setIfInBounds_toArray, List.set_cons_zero, List.set_cons_succ]
                    refine takeW (i := 11) (d := (some 93)) (v := ?_) rfl rfl (by kernel_rfl) (by kernel_rfl) (by kernel_rfl) (fun _ _ _ h => h) (by rfl) ?_ (by assumption) ?_
                    rotate_left
                    · intro w' hSw; (try dsimp only at hSw); go_simp; try with_reducible rfl
                    try simp only [Act.put, List.setIfInBounds_toArray, List.set_cons_zero, List.set_cons_succ]
                    refine takeW (i := 12) (d := (some 94)) (v := ?_) rfl rfl (by kernel_rfl) (by kernel_rfl) (by kernel_rfl) (fun _ _ _ h => h) (by rfl) ?_ (by assumption) ?_
                    rotate_left
                    · intro w' hSw; (try dsimp only at hSw); go_simp; try with_reducible rfl
                    try simp only [Act.put, List.setIfInBounds_toArray, List.set_cons_zero, List.set_cons_succ]
                    refine takeW (i := 13) (d := (some 95)) (v := ?_) rfl rfl (by kernel_rfl) (by kernel_rfl) (by kernel_rfl) (fun _ _ _ h => h) (by rfl) ?_ (by assumption) ?_
                    rotate_left
                    · intro w' hSw; (try dsimp only at hSw); go_simp; try with_reducible rfl
                    try simp only [Act.put, List.setIfInBounds_toArray, List.set_cons_zero, List.set_cons_succ]
                    refine takeW (i := 14) (d := (some 96)) (v := ?_) rfl rfl (by kernel_rfl) (by kernel_rfl) (by kernel_rfl) (fun _ _ _ h => h) (by rfl) ?_ (by assumption) ?_
                    rotate_left
                    · intro w' hSw; (try dsimp only at hSw); go_simp; try with_reducible rfl
                    try simp only [Act.put, List.setIfInBounds_toArray, List.set_cons_zero, List.set_cons_succ]
                    refine wpAnyH_ready (rs := [15]) (by kernel_rfl) (by simp) ?_
                    refine AllReadyH.cons rfl (fun K hK => ?_) AllReadyH.nil
                    go_simp
                    go_at_call 14
                    (with_reducible refine (message_any _ xf xt mf mt xA D _ _ xcp c8 xd md rfl rfl (RXQ.out _ (by repeat' (first | (with_reducible assumption) | (with_reducible exact Chg.refl _ _) | (with_reducible refine Chg.alloc ?_ _) | (with_reducible refine Chg.drewN ?_ _) | (with_reducible refine Chg.drew ?_) | (with_reducible refine Chg.strW ?_ _ _) | (with_reducible refine Chg.t0 ?_ (by with_reducible assumption))))) (RDW.out _ (by repeat' (first | (with_reducible assumption) | (with_reducible exact Chg.refl _ _) | (with_reducible refine Chg.alloc ?_ _) | (with_reducible refine Chg.drewN ?_ _) | (with_reducible refine Chg.drew ?_) | (with_reducible refine Chg.strW ?_ _ _) | (with_reducible refine Chg.t0 ?_ (by with_reducible assumption))))) hxd.out).mono ?_)
                    rintro e w3 ⟨he, hch3⟩
                    rw [hr.out] at he
                    subst he
                    have hch23 : Hid (Chg [] wr w3) := ((by repeat' (first | (with_reducible assumption) | (with_reducible exact Chg.refl _ _) | (with_reducible refine Chg.alloc ?_ _) | (with_reducible refine Chg.drewN ?_ _) | (with_reducible refine Chg.drew ?_) | (with_reducible refine Chg.strW ?_ _ _) | (with_reducible refine Chg.t0 ?_ (by with_reducible assumption)))) : Chg [] wr w3)
                    go_wp2_with (fail)
                    refine hK.out _ _ ?_ (fun hHeld => ?_)
                    · first | exact KK.out _ hch23.out | (dsimp only; exact KK.out _ hch23.out)
                    clear hK K
                    try simp only [Act.put, List.setIfInBounds_toArray, List.set_cons_zero, List.set_cons_succ]
                    refine takeW (i := 16) (d := (some 98)) (v := ?_) rfl rfl (by kernel_rfl) (by kernel_rfl) (by kernel_rfl) (fun _ _ _ h => h) (by rfl) ?_ (by assumption) ?_
                    rotate_left
                    · intro w' hSw; (try dsimp only at hSw); go_simp; try with_reducible rfl
                    try simp only [Act.put, List.setIfInBounds_toArray, List.set_cons_zero, List.set_cons_succ]
                    refine wpAnyH_done (by kernel_rfl) ?_ _
                    cases r
                    · have HA2 : Hid (AtN ls o mf mt md (q + 1) (-1)) := .inl ⟨rfl, fun j hj => by
                        by_cases e : j = q
                        · subst e; rw [HM2.out]; simp
                        · exact HNo.out j (by omega)⟩
                      clear HNo HM2
                      go_wp2_with (fail)
                      go_roundw
                      case rel => exact ⟨q + 1, -1, by omega, by go_num, rfl, HA2, (hcq.out.trans hch23.out (by simp))⟩
                      case measure => simp [intOf]; omega
                    · have HA2 : Hid (AtN ls o mf mt md (q + 1) (q : Int)) := .inr ⟨q, rfl, by omega, HM2.out.2 rfl⟩
                      clear HNo HM2
                      go_wp2_with (fail)
                      go_roundw
                      case rel => exact ⟨q + 1, q, by omega, by go_num, rfl, HA2, (hcq.out.trans hch23.out (by simp))⟩
                      case measure => simp [intOf]; omega
                  · have HM2 : Hid (¬ MatchN ls o mf mt md q) := by unfold Hid; rw [HMt.out]; simp
                    have KK := KKa
                    have HA2 : Hid (AtN ls o mf mt md (q + 1) (-1)) := .inl ⟨rfl, fun j hj => by
                      by_cases e : j = q
                      · subst e; exact HM2.out
                      · exact HNo.out j (by omega)⟩
                    clear HMt KKa HNo HM2
                    go_wp2_with (fail)
                    refine wp_region_held_drew (S := fun w' => w'.cell? ⟨gb, 0, none⟩ = some (.int .i64 mf) ∧ w'.cell? ⟨gb, 1, none⟩ = some (.int .i64 mt) ∧ w'.cell? ⟨gb, 2, none⟩ = some (.slice D md.length c8) ∧ w'.cell? (ad.add (q * 3)) = some (.int .i64 xf) ∧ w'.cell? ⟨(ad.add (q * 3)).block, (ad.add (q * 3)).off + 1, none⟩ = some (.int .i64 xt) ∧ w'.cell? ⟨(ad.add (q * 3)).block, (ad.add (q * 3)).off + 2, none⟩ = some (.slice xA xd.length xcp) ∧ w'.cell? ⟨go, q, none⟩ = some (.bool true)) (by kernel_rfl) ?_ (fun hHeld => ?_)
                    · exact KK.out _ ((Chg.refl [] wr).drewN 1)
                    refine takeW (i := 0) (d := (some 82)) (v := ?_) rfl rfl (by kernel_rfl) (by kernel_rfl) (by kernel_rfl) (fun _ _ _ h => h) (by rfl) ?_ (by assumption) ?_
                    rotate_left
                    · intro w' hSw; (try dsimp only at hSw); go_simp; try with_reducible rfl
                    try simp only [Act.put, List.setIfInBounds_toArray, List.set_cons_zero, List.set_cons_succ]
                    refine takeW (i := 1) (d := (some 83)) (v := ?_) rfl rfl (by kernel_rfl) (by kernel_rfl) (by kernel_rfl) (fun _ _ _ h => h) (by rfl) ?_ (by assumption) ?_
                    rotate_left
                    · intro w' hSw; (try dsimp only at hSw); go_simp; try with_reducible rfl
                    try simp only [Act.put, List.setIfInBounds_toArray, List.set_cons_zero, List.set_cons_succ]
                    refine takeW (i := 2) (d := (some 84)) (v := ?_) rfl rfl (by kernel_rfl) (by kernel_rfl) (by kernel_rfl) (fun _ _ _ h => h) (by rfl) ?_ (by assumption) ?_
                    rotate_left
                    · intro w' hSw; (try dsimp only at hSw); go_simp; try with_reducible rfl
                    try simp only [Act.put, List.setIfInBounds_toArray, List.set_cons_zero, List.set_cons_succ]
                    refine takeW (i := 3) (d := (some 85)) (v := ?_) rfl rfl (by kernel_rfl) (by kernel_rfl) (by kernel_rfl) (fun _ _ _ h => h) (by rfl) ?_ (by assumption) ?_
                    rotate_left
                    · intro w' hSw; (try dsimp only at hSw); go_simp; try with_reducible rfl
                    try simp only [Act.put, List.setIfInBounds_toArray, List.set_cons_zero, List.set_cons_succ]
                    refine takeW (i := 4) (d := (some 86)) (v := ?_) rfl rfl (by kernel_rfl) (by kernel_rfl) (by kernel_rfl) (fun _ _ _ h => h) (by rfl) ?_ (by assumption) ?_
                    rotate_left
                    · intro w' hSw; (try dsimp only at hSw); go_simp; try with_reducible rfl
                    try simp only [Act.put, List.setIfInBounds_toArray, List.set_cons_zero, List.set_cons_succ]
                    refine takeW (i := 5) (d := (some 87)) (v := ?_) rfl rfl (by kernel_rfl) (by kernel_rfl) (by kernel_rfl) (fun _ _ _ h => h) (by rfl) ?_ (by assumption) ?_
                    rotate_left
                    · intro w' hSw; (try dsimp only at hSw); go_simp; try with_reducible rfl
                    try simp only [Act.put, List.setIfInBounds_toArray, List.set_cons_zero, List.set_cons_succ]
                    refine takeW (i := 6) (d := (some 88)) (v := ?_) rfl rfl (by kernel_rfl) (by kernel_rfl) (by kernel_rfl) (fun _ _ _ h => h) (by rfl) ?_ (by assumption) ?_
                    rotate_left
                    · intro w' hSw; (try dsimp only at hSw); go_simp; try with_reducible rfl
                    try simp only [Act.put, List.setIfInBounds_toArray, List.set_cons_zero, List.set_cons_succ]
                    refine takeW (i := 7) (d := (some 89)) (v := ?_) rfl rfl (by kernel_rfl) (by kernel_rfl) (by kernel_rfl) (fun _ _ _ h => h) (by rfl) ?_ (by assumption) ?_
                    rotate_left
                    · intro w' hSw; (try dsimp only at hSw); go_simp; try with_reducible rfl
                    try simp only [Act.put, List.setIfInBounds_toArray, List.set_cons_zero, List.set_cons_succ]
                    refine takeW (i := 8) (d := (some 90)) (v := ?_) rfl rfl (by kernel_rfl) (by kernel_rfl) (by kernel_rfl) (fun _ _ _ h => h) (by rfl) ?_ (by assumption) ?_
                    rotate_left
                    · intro w' hSw; (try dsimp only at hSw); go_simp; try with_reducible rfl
                    try simp only [Act.put, List.setIfInBounds_toArray, List.set_cons_zero, List.set_cons_succ]
                    refine takeW (i := 9) (d := (some 91)) (v := ?_) rfl rfl (by kernel_rfl) (by kernel_rfl) (by kernel_rfl) (fun _ _ _ h => h) (by rfl) ?_ (by assumption) ?_
                    rotate_left
                    · intro w' hSw; (try dsimp only at hSw); go_simp; try with_reducible rfl
                    try simp only [Act.put, List.setIfInBounds_toArray, List.set_cons_zero, List.set_cons_succ]
                    refine takeU (i := 10) (d := (some 92)) rfl rfl (by kernel_rfl) (by kernel_rfl) (by kernel_rfl) (fun _ _ _ h => h) (by rfl) (by assumption) ?_
                    try simp only [Act.put, List.setIfInBounds_toArray, List.set_cons_zero, List.set_cons_succ]
                    refine takeU (i := 11) (d := (some 93)) rfl rfl (by kernel_rfl) (by kernel_rfl) (by kernel_rfl) (fun _ _ _ h => h) (by rfl) (by assumption) ?_
                    try simp only [Act.put, List.setIfInBounds_toArray, List.set_cons_zero, List.set_cons_succ]
                    refine takeU (i := 12) (d := (some 94)) rfl rfl (by kernel_rfl) (by kernel_rfl) (by kernel_rfl) (fun _ _ _ h => h) (by rfl) (by assumption) ?_
                    try simp only [Act.put, List.setIfInBounds_toArray, List.set_cons_zero, List.set_cons_succ]
                    refine takeU (i := 13) (d := (some 95)) rfl rfl (by kernel_rfl) (by kernel_rfl) (by kernel_rfl) (fun _ _ _ h => h) (by rfl) (by assumption) ?_
                    try simp only [Act.put, List.setIfInBounds_toArray, List.set_cons_zero, List.set_cons_succ]
                    refine takeU (i := 14) (d := (some 96)) rfl rfl (by kernel_rfl) (by kernel_rfl) (by kernel_rfl) (fun _ _ _ h => h) (by rfl) (by assumption) ?_
                    try simp only [Act.put, List.setIfInBounds_toArray, List.set_cons_zero, List.set_cons_succ]
                    refine takeU (i := 15) (d := (some 97)) rfl rfl (by kernel_rfl) (by kernel_rfl) (by kernel_rfl) (fun _ _ _ h => h) (by rfl) (by assumption) ?_
                    try simp only [Act.put, List.setIfInBounds_toArray, List.set_cons_zero, List.set_cons_succ]
                    refine takeW (i := 16) (d := (some 98)) (v := ?_) rfl rfl (by kernel_rfl) (by kernel_rfl) (by kernel_rfl) (fun _ _ _ h => h) (by rfl) ?_ (by assumption) ?_
                    rotate_left
                    · intro w' hSw; (try dsimp only at hSw); go_simp; try with_reducible rfl
                    try simp only [Act.put, List.setIfInBounds_toArray, List.set_cons_zero, List.set_cons_succ]
                    refine wpAnyH_done (by kernel_rfl) ?_ _
                    go_wp2_with (fail)
                    go_roundw
                    case rel => exact ⟨q + 1, -1, by omega, by go_num, rfl, HA2, (hcq.out.drewN 1)⟩
                    case measure => simp [intOf]; omega
              · obtain ⟨a, rfl, ha, hM⟩ : ∃ a : Nat, z = a ∧ a < ls.length ∧ MatchN ls o mf mt md a := by
                  rcases HAt.out with ⟨h1, h2⟩ | ⟨a, h1, h2, h3⟩
                  · obtain ⟨a, h3, h4⟩ := HEx.out
                    exact absurd h4 (h2 a (by omega))
                  · exact ⟨a, h1, by omega, h3⟩
                have HNr := Lib.hid (HN9.out.quiet hcq.out).tail
                have y0 : wr.cell? ⟨go, a, none⟩ = some (.bool false) := by
                  obtain ⟨a2, h1, _, h2⟩ := (RO.out _ hcq.out).at_ (by omega)
                  obtain rfl : a2 = ⟨go, 0, none⟩ := by injection h1 with h1; exact h1.symm
                  have := h2 a (.bool false) (by simp [cBo, hM.1])
                  have e : (⟨go, 0, none⟩ : Addr).add a = ⟨go, a, none⟩ := by unfold Addr.add; split <;> simp_all
                  rwa [e] at this
                have fz : wr.frozen? ⟨go, a, none⟩ = false := own_free (HNr.out.at_ 0 rfl) a
                have HN10 : Hid (NetA w (wr.setCell ⟨go, a, none⟩ (.bool true)) gn N2 [rOwn 4 1 (some ⟨go, 0, none⟩) ls.length ls.length (cBo (o.set a true))]) := by
                  have h := HNr.out.store a (.bool true)
                  have e : cBo (o.set a true) = (cBo o).set a (.bool true) := by simp [cBo, List.map_set]
                  rw [e]; exact h
                have HNP2 := Lib.hid (HPu.out a hM)
                have hai : (a : Int) < (ls.length : Int) := by omega
                have ha0 : decide ((a : Int) < 0) = false := decide_eq_false (by omega)
                have hqi : ¬ (q : Int) < (ls.length : Int) := by omega
                have HOl : Hid ((o.set a true).length = ls.length) := by unfold Hid; rw [List.length_set, Hol.out]
                clear HPu HEx HAt RDQ RO MQ HN9 Z9 HNr hM
                go_wp2_with (fail)
                go_roundw
                case rel => exact ⟨k + 1, o.set a true, by omega, by go_num, HOl.out, N2, HN10.out, HNP2.out, HEl.out⟩
                case measure => simp [intOf]; omega
        · obtain rfl : k = ls.length := by omega
          obtain ⟨hol, N, HN, hN, hNl⟩ := HK.out
          obtain rfl : N = [] := List.eq_nil_of_length_eq_zero (by omega)
          have HN2 := Lib.hid HN
          have hki : ¬ (ls.length : Int) < (ls.length : Int) := by omega
          clear HK HN hN hNl hol
          go_wp2_with (fail)
          refine (len_all HN2.out).mono ?_
          rintro e w9 ⟨rfl, rfl⟩
          go_wp2_with (fail)
          refine (knownN_any _).mono ?_
          rintro e w9 ⟨rfl, hch9⟩
          go_wp2_with (fail)
          go_ret
          exact ⟨rfl, HN2.out.chg.trans hch9 (by simp)⟩
end Go.Proofs.Ytbgdcplbekoemaa
