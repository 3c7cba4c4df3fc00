
/-
  net: Give, Twice, Send.
-/
import Derived.Test.YtbgdcplbekoemaaNetM
namespace Go.Proofs.Ytbgdcplbekoemaa
open Go.RowKit
set_option linter.unusedVariables false
attribute [local go_sem ↓] run_min2 run_max2

/-- A message in memory. -/
structure MsgV where
  f : Int
  t : Int
  d : List UInt8
  A : Option Addr
  cp : Nat
def MsgV.cells (x : MsgV) : List Value := [.int .i64 x.f, .int .i64 x.t, .slice x.A x.d.length x.cp]
def MsgV.val (x : MsgV) : MV := ⟨x.f, x.t, x.d, false⟩
def cMs (l : List MsgV) : List Value := l.flatMap MsgV.cells
theorem cMs_cons (a : MsgV) (l : List MsgV) : cMs (a :: l) = a.cells ++ cMs l := rfl
theorem cMs_app (a b : List MsgV) : cMs (a ++ b) = cMs a ++ cMs b := by simp [cMs, List.flatMap_append]
theorem cMs_len (l : List MsgV) : (cMs l).length = l.length * 3 := by
  induction l with
  | nil => rfl
  | cons a l ih => rw [cMs_cons, List.length_append, ih, List.length_cons, Nat.succ_mul, Nat.add_comm]; rfl
theorem cMs_one (l : List MsgV) : ∀ u ∈ cMs l, u.oneCell' = true := by
  intro u hu
  obtain ⟨r, _, hr⟩ := List.mem_flatMap.1 hu
  simp only [MsgV.cells, List.mem_cons, List.not_mem_nil, or_false] at hr
  rcases hr with rfl | rfl | rfl <;> rfl
theorem cMs_get : ∀ {l : List MsgV} {k : Nat} (hk : k < l.length) {j : Nat} (hj : j < 3), (cMs l)[k * 3 + j]? = (l[k].cells)[j]?
  | a :: l, 0, _, j, hj => by
    rw [cMs_cons, Nat.zero_mul, Nat.zero_add, List.getElem?_append_left (by exact hj)]; rfl
  | a :: l, k + 1, hk, j, hj => by
    rw [cMs_cons, List.getElem?_append_right (by show 3 ≤ _; omega)]
    have e : (k + 1) * 3 + j - a.cells.length = k * 3 + j := by show (k + 1) * 3 + j - 3 = _; omega
    rw [e, cMs_get (by simpa using hk) hj]; rfl
/-- What is known of a message. -/
structure MsgV.In (w : World) (x : MsgV) : Prop where
  rd : Rd w 1 x.A x.d.length (cB x.d)
  nil : x.A = none → x.cp = 0
  dl : x.d.length ≤ 1099511627776
theorem MsgV.In.k {w w' : World} {x : MsgV} (h : x.In w) (hc : Chg [] w w') : x.In w' := ⟨h.rd.keep0 hc, h.nil, h.dl⟩
/-- Messages in a row of memory. -/
structure MsIn (w : World) (A : Option Addr) (l : List MsgV) : Prop where
  rd : Rd w 3 A l.length (cMs l)
  each : ∀ x ∈ l, x.In w
theorem MsIn.k {w w' : World} {A : Option Addr} {l : List MsgV} (h : MsIn w A l) (hc : Chg [] w w') : MsIn w' A l := ⟨h.rd.keep0 hc, fun x hx => (h.each x hx).k hc⟩
theorem MsIn.get {w : World} {A : Option Addr} {l : List MsgV} (h : MsIn w A l) {k : Nat} (hk : k < l.length) :
    ∃ ad, A = some ad ∧ (∀ j u, (l[k].cells)[j]? = some u → w.cell? (ad.add (k * 3 + j)) = some u) := by
  obtain ⟨ad, hA, hb, hc⟩ := h.rd.at_ (by omega)
  refine ⟨ad, hA, fun j u hu => hc _ _ ?_⟩
  have hj : j < 3 := (List.getElem?_eq_some_iff.1 hu).1
  rw [cMs_get hk hj]; exact hu
theorem msg_size : (Try.prog.info? 35).map (·.size) = some 3 := by kernel_rfl
theorem ret_msg2 {fn : Func} {p q : Tmp} {tmps : Array Value} {w : World} {g : Nat} {T : TypeId} {cs : Array Value} {v : Value} {Post : Ending → World → Prop} (hs : cs.size = 3) (h : fn.results = #[.cell p 35, .tmp q])
    (hp : tmps.getD p undef = .pointer (some ⟨g, 0, none⟩)) (hq : tmps.getD q undef = v) (hg : At w g T cs) (hpost : Post (.returned (.tuple #[.agg cs, v])) w) :
    bodyPost Try.prog fn Post Exit.ret ⟨tmps, []⟩ w := by
  refine bodyPost_ret (v := .tuple #[.agg cs, v]) ?_ rfl hpost
  have hp' : tmps[p]?.getD undef = .pointer (some ⟨g, 0, none⟩) := by simpa using hp
  have hq' : tmps[q]?.getD undef = v := by simpa using hq
  simp [results, h, hp', hq', asAddr, run_loadVar_row w g T 35 _ (0, 0) _ hg Try.underlying35 rfl (msg_size.trans (by rw [hs]))]
section
variable {w0 w w' : World} {gn : Nat} {l : List MV} {rs : List Res}
set_option maxHeartbeats 1600000 in
/-- Give's walk behind takes, whatever takes told. -/
theorem give_with (p : Int) (v : Value) (mf mt : Int) (n : Nat) (msp ok : Bool) (Post : Option Addr → Nat → World → Prop) (HT : Calls Try.prog 25 #[v, .int .i64 p] (w.alloc (.cells #[.int .i64 0, .int .i64 0, .slice none 0 0] 35)) fun e w' => ∃ B c2, e = .returned (.tuple #[.agg #[.int .i64 mf, .int .i64 mt, .slice B n c2, .bool msp], .bool ok]) ∧ At w' w.heap.size 35 #[.int .i64 0, .int .i64 0, .slice none 0 0] ∧ Post B c2 w')
    (hP : ∀ B c2 w1 w2, Post B c2 w1 → w.heap.size < w1.heap.size → Chg [w.heap.size] w1 w2 → Post B c2 w2) :
    Calls Try.prog 13 #[v, .int .i64 p] w fun e w' => ∃ B c2, e = .returned (.tuple #[.agg #[.int .i64 mf, .int .i64 mt, .slice B n c2], .bool ok]) ∧ Post B c2 w' := by
  have HT' := Lib.hid HT
  have HPP := Lib.hid hP
  clear HT hP
  go_enter Try.func13, Try.ntmps13
  go_wp2_with (fail)
  refine HT'.out.mono ?_
  rintro e w1 ⟨B, c2, rfl, z1, hpost⟩
  have hl1 := z1.lt
  have b1 := At.new w1 59 #[.int .i64 mf, .int .i64 mt, .slice B n c2, .bool msp]
  have q1 := (Chg.refl [] w1).alloc (.cells #[.int .i64 mf, .int .i64 mt, .slice B n c2, .bool msp] 59)
  have z2 := z1.keep q1 (by simp)
  have u0 := z2.cell 0
  have u1 := z2.cell 1
  have u2 := z2.cell 2
  have fu0 := z2.free 0
  have fu1 := z2.free 1
  have fu2 := z2.free 2
  have x0 := b1.cell 0
  have x1 := b1.cell 1
  have x2 := b1.cell 2
  have v0 := z1.cell 0
  have v1 := z1.cell 1
  have v2 := z1.cell 2
  have fv0 := z1.free 0
  have fv1 := z1.free 1
  have fv2 := z1.free 2
  simp only [List.getElem?_toArray, List.getElem?_cons_zero, List.getElem?_cons_succ] at u0 u1 u2 x0 x1 x2 v0 v1 v2
  have hne : ¬ w1.heap.size = w.heap.size := by omega
  clear b1
  go_wp2_with (fail)
  refine ret_msg2 (g := w.heap.size) (T := 35) (cs := #[.int .i64 mf, .int .i64 mt, .slice B n c2]) rfl Try.results13 rfl rfl ?_ ?_
  · have h := ((z1.set_ 0 (.int .i64 mf)).set_ 1 (.int .i64 mt)).set_ 2 (.slice B n c2)
    refine At.al ?_ _
    simpa using h
  · refine ⟨B, c2, rfl, HPP.out _ _ _ _ hpost hl1 ?_⟩
    exact ((((Chg.refl _ _).setCell (.inl (by simp)) _).setCell (.inl (by simp)) _).setCell (.inl (by simp)) _).alloc _
theorem NetA.at_ (h : NetA w0 w gn l rs) (i : Nat) {r : Res} (hi : rs[i]? = some r) : r.P w := by
  obtain ⟨A, c, ms, _, H⟩ := h
  exact H.get (i + 1) (by simpa using hi)
/-- Things beside the Net change among themselves. -/
theorem NetA.beside (h : NetA w0 w gn l rs) {rs' : List Res} (f : ∀ r, All w0 w (rs ++ [r]) → All w0 w' (rs' ++ [r])) : NetA w0 w' gn l rs' := by
  obtain ⟨A, c, ms, e, H⟩ := h
  have h2 := f _ (H.perm (List.perm_append_singleton _ _).symm)
  exact ⟨A, c, ms, e, h2.perm (List.perm_append_singleton _ _)⟩
theorem NetA.newAt (h : NetA w0 w gn l rs) (t : TypeId) (cs : Array Value) {g : Nat} (hg : g = w.heap.size) : NetA w0 (w.alloc (.cells cs t)) gn l (rAt g t cs :: rs) := h.beside fun r H => H.newAt t cs hg
theorem NetA.ruin {r : Res} (h : NetA w0 w gn l (r :: rs)) (hc : Chg r.F w w') : NetA w0 w' gn l rs := h.beside fun r H => H.ruin hc
theorem NetA.tail {r : Res} (h : NetA w0 w gn l (r :: rs)) : NetA w0 w gn l rs := h.ruin (Chg.refl _ _)
theorem NetA.row (h : NetA w0 w gn l rs) (hc : Chg [] w w') {e : TypeId} {A : Option Addr} {n c : Nat} {xs : List Value} (ho : w'.ownsRow w.heap.size e 1 (.slice A n c) n xs) : NetA w0 w' gn l (rRow 0 e A n c xs :: rs) := h.beside fun r H => H.row hc ho
theorem NetA.chg (h : NetA w0 w gn l rs) : Chg [] w0 w := by
  obtain ⟨A, c, ms, _, H⟩ := h
  exact H.chg
theorem NetA.swap {a b : Res} (h : NetA w0 w gn l (a :: b :: rs)) : NetA w0 w gn l (b :: a :: rs) := h.beside fun r H => H.perm (List.Perm.swap _ _ _)
theorem NetA.ap {a b : Res} (h : NetA w0 w gn l (a :: b :: rs)) : ∀ x ∈ b.F, x ∉ a.F := by
  obtain ⟨A, c, ms, _, H⟩ := h
  exact ((H.front 1 rfl).apart 1 rfl)
theorem NetA.lt {a : Res} (h : NetA w0 w gn l (a :: rs)) : ∀ x ∈ a.F, w0.heap.size ≤ x ∧ x < w.heap.size := by
  obtain ⟨A, c, ms, _, H⟩ := h
  exact H.rng 1 rfl
theorem give_all (h : NetA w0 w gn l rs) (hl : l.length ≤ 1024) (hp : 0 < l.length) (p : Int) (i : Nat) (hpi : pickN p l.length = i) (m : MV) (hm : l[i]? = some m) :
    Calls Try.prog 13 #[.pointer (some ⟨gn, 0, none⟩), .int .i64 p] w fun e w' => ∃ B c2, e = .returned (.tuple #[.agg #[.int .i64 m.f, .int .i64 m.t, .slice B m.d.length c2], .bool true]) ∧ NetA w0 w' gn (l.eraseIdx i) (rRow 0 5 B m.d.length c2 (cB m.d) :: rs) ∧ w.heap.size ≤ w'.heap.size := by
  have h1 := h.newAt 35 #[.int .i64 0, .int .i64 0, .slice none 0 0] rfl
  have HT := takes_all h1 hl hp p i hpi m hm
  refine (give_with p (.pointer (some ⟨gn, 0, none⟩)) m.f m.t m.d.length m.sp true (fun B c2 w' => NetA w0 w' gn (l.eraseIdx i) (⟨[w.heap.size], fun _ => True⟩ :: rRow 0 5 B m.d.length c2 (cB m.d) :: rs) ∧ w.heap.size ≤ w'.heap.size) (HT.mono ?_) ?_).mono ?_
  · rintro e w1 ⟨B, c2, rfl, hB, H1, hs⟩
    have H2 := H1.swap
    refine ⟨B, c2, rfl, H2.at_ 0 rfl, H2.beside fun r H => ?_, by simp at hs; omega⟩
    exact H.head (Chg.refl _ _) ⟨[w.heap.size], fun _ => True⟩ (fun b hb => ⟨.inl hb, (H.rng 0 rfl b hb).2⟩) (by simp) trivial (fun _ _ _ _ _ => trivial)
  · rintro B c2 w1 w2 ⟨H1, hs⟩ hlt hc
    refine ⟨H1.beside fun r H => ?_, Nat.le_trans hs hc.size⟩
    exact H.head hc ⟨[w.heap.size], fun _ => True⟩ (fun b hb => ⟨.inl hb, Nat.lt_of_lt_of_le (H.rng 0 rfl b hb).2 hc.size⟩) (by simp) trivial (fun _ _ _ _ _ => trivial)
  · rintro e w1 ⟨B, c2, rfl, H1, hs⟩
    exact ⟨B, c2, rfl, H1.tail, hs⟩
theorem give_none (h : NetA w0 w gn [] rs) (p : Int) :
    Calls Try.prog 13 #[.pointer (some ⟨gn, 0, none⟩), .int .i64 p] w fun e w' => e = .returned (.tuple #[.agg #[.int .i64 0, .int .i64 0, .slice none 0 0], .bool false]) ∧ Chg [] w w' := by
  have q0 := (Chg.refl [] w).alloc (.cells #[.int .i64 0, .int .i64 0, .slice none 0 0] 35)
  have HT := takes_none (h.quiet q0) p
  refine (give_with p (.pointer (some ⟨gn, 0, none⟩)) 0 0 0 false false (fun B c2 w' => B = none ∧ c2 = 0 ∧ Chg [] w w') (HT.mono ?_) ?_).mono ?_
  · rintro e w1 ⟨rfl, hc⟩
    exact ⟨none, 0, rfl, (At.new w _ _).keep hc (by simp), rfl, rfl, q0.trans hc (by simp)⟩
  · rintro B c2 w1 w2 ⟨rfl, rfl, h1⟩ hlt hc
    exact ⟨rfl, rfl, h1.trans hc (by simp)⟩
  · rintro e w1 ⟨B, c2, rfl, rfl, rfl, hc⟩
    exact ⟨rfl, hc⟩
theorem give_nil (w : World) (p : Int) :
    Calls Try.prog 13 #[.pointer none, .int .i64 p] w fun e w' => e = .returned (.tuple #[.agg #[.int .i64 0, .int .i64 0, .slice none 0 0], .bool false]) ∧ Chg [] w w' := by
  have q0 := (Chg.refl [] w).alloc (.cells #[.int .i64 0, .int .i64 0, .slice none 0 0] 35)
  have HT := takes_nil (w.alloc (.cells #[.int .i64 0, .int .i64 0, .slice none 0 0] 35)) p
  refine (give_with p (.pointer none) 0 0 0 false false (fun B c2 w' => B = none ∧ c2 = 0 ∧ Chg [] w w') (HT.mono ?_) ?_).mono ?_
  · rintro e w1 ⟨rfl, hc⟩
    exact ⟨none, 0, rfl, (At.new w _ _).keep hc (by simp), rfl, rfl, q0.trans hc (by simp)⟩
  · rintro B c2 w1 w2 ⟨rfl, rfl, h1⟩ hlt hc
    exact ⟨rfl, rfl, h1.trans hc (by simp)⟩
  · rintro e w1 ⟨B, c2, rfl, rfl, rfl, hc⟩
    exact ⟨rfl, hc⟩
/-- What lies in memory of the i-th message. -/
theorem NetA.pick (h : NetA w0 w gn l rs) {i : Nat} {m : MV} (hm : l[i]? = some m) :
    ∃ g c B c2, w.cell? ⟨gn, 0, none⟩ = some (.slice (some ⟨g, 0, none⟩) l.length c) ∧ w.cell? ⟨g, i * 4, none⟩ = some (.int .i64 m.f) ∧ w.cell? ⟨g, i * 4 + 1, none⟩ = some (.int .i64 m.t) ∧ w.cell? ⟨g, i * 4 + 2, none⟩ = some (.slice B m.d.length c2) ∧ w.cell? ⟨g, i * 4 + 3, none⟩ = some (.bool m.sp) ∧ Rd w 1 B m.d.length (cB m.d) ∧ (B = none → c2 = 0) := by
  obtain ⟨A, c, ms, rfl, H⟩ := h
  rw [List.getElem?_map] at hm
  obtain ⟨mi, hmi, rfl⟩ := Option.map_eq_some_iff.1 hm
  obtain ⟨hi, rfl⟩ := List.getElem?_eq_some_iff.1 hmi
  obtain ⟨h1, h2, h3⟩ := H.get 0 rfl
  obtain ⟨g, rfl⟩ : ∃ g, A = some ⟨g, 0, none⟩ := by
    rcases h2.2 with ⟨_, h4⟩ | ⟨g, cap, cur, h4, _⟩
    · omega
    · injection h4 with h4; exact ⟨g, h4⟩
  have ho := h3 ms[i] (List.getElem_mem hi)
  have hR : ∀ (j : Nat) (hj : j < 4) u, (ms[i].cells)[j]? = some u → w.cell? ⟨g, i * 4 + j, none⟩ = some u := fun j hj u hu => by
    obtain ⟨ad, ha, _, hc⟩ := (Rd.of_own h2).at_ (by omega)
    obtain rfl : ad = ⟨g, 0, none⟩ := by injection ha with ha; exact ha.symm
    have := hc (i * 4 + j) u (by rw [cUd_get hi hj]; exact hu)
    have e : (⟨g, 0, none⟩ : Addr).add (i * 4 + j) = ⟨g, i * 4 + j, none⟩ := by unfold Addr.add; split <;> simp_all
    rwa [e] at this
  refine ⟨g, c, ms[i].A, ms[i].cp, by rw [List.length_map]; exact (h1.cell 0).trans rfl, hR 0 (by omega) _ rfl, hR 1 (by omega) _ rfl, hR 2 (by omega) _ rfl, hR 3 (by omega) _ rfl, Rd.of_own ho, fun hA => ?_⟩
  rcases ho.2 with ⟨h4, _⟩ | ⟨g, cap, cur, h4, _⟩
  · injection h4
  · injection h4 with h4; rw [hA] at h4; cases h4
theorem picked_all (h : NetA w0 w gn l rs) (hp : 0 < l.length) (p : Int) :
    Calls Try.prog 26 #[.pointer (some ⟨gn, 0, none⟩), .int .i64 p] w fun e w' => e = .returned (.tuple #[.int .i64 (pickN p l.length), .bool true]) ∧ w' = w := by
  obtain ⟨A, c, ms, rfl, H⟩ := h
  rw [List.length_map] at hp ⊢
  exact picked_yes w0 w gn A c ms (NetH.of_all H) hp p
/-- A message is laid once more. -/
def twiceL (l : List MV) (p : Int) : List MV := if l.length < 1024 then l ++ (l[pickN p l.length]?).toList else l
set_option maxHeartbeats 1600000 in
theorem twice_all (h : NetA w0 w gn l rs) (hl : l.length ≤ 1024) (hd : ∀ m ∈ l, m.d.length ≤ 1099511627776) (p : Int) :
    Calls Try.prog 17 #[.pointer (some ⟨gn, 0, none⟩), .int .i64 p] w fun e w' => e = .returned (.bool (decide (0 < l.length ∧ l.length < 1024))) ∧ NetA w0 w' gn (twiceL l p) rs ∧ w.heap.size ≤ w'.heap.size := by
  by_cases hp : 0 < l.length
  · obtain ⟨m, hm⟩ : ∃ m, l[pickN p l.length]? = some m := ⟨_, List.getElem?_eq_getElem (pickN_lt hp)⟩
    have HP := Lib.hid (picked_all h hp p)
    have HL : Hid (twiceL l p = if l.length < 1024 then l ++ [m] else l) := by unfold Hid twiceL; rw [hm]; rfl
    have Hmd : Hid (m.d.length ≤ 1099511627776) := hd m (List.mem_of_getElem? hm)
    obtain ⟨g, c, B, c2, cn, r0, r1, r2, r3, hrd, hnil⟩ := h.pick hm
    have hii := pickN_lt (p := p) hp
    have HRd := Lib.hid hrd
    have HNl := Lib.hid hnil
    have HH := Lib.hid h
    have Hp := Lib.hid hp
    clear h hd hm hp hrd hnil
    obtain ⟨mf, mt, md, msp⟩ := m
    simp only at *
    generalize pickN p l.length = i at *
    have hii2 : (i : Int) < (l.length : Int) := by omega
    by_cases hlt : l.length < 1024
    · have HLL : Hid (l.length < 1024) := hlt
      clear hlt
      go_enter Try.func17, Try.ntmps17
      go_wp2_with (fail)
      refine HP.out.mono ?_
      rintro e w1 ⟨rfl, rfl⟩
      go_wp2_with (fail)
      refine (lays_all HH.out HLL.out mf mt md B _ c2 msp rfl HRd.out Hmd.out HNl.out).mono ?_
      rintro e w3 ⟨rfl, H3, hs3⟩
      go_wp2_with (fail)
      go_ret
      refine ⟨?_, ?_, hs3⟩
      · rw [decide_eq_true (p := 0 < l.length ∧ l.length < 1024) ⟨Hp.out, HLL.out⟩]; rfl
      · rw [HL.out, if_pos HLL.out]; exact H3
    · have HLL : Hid (l.length = 1024) := Nat.le_antisymm hl (Nat.le_of_not_lt hlt)
      clear hlt
      go_enter Try.func17, Try.ntmps17
      go_wp2_with (fail)
      refine HP.out.mono ?_
      rintro e w1 ⟨rfl, rfl⟩
      go_wp2_with (fail)
      refine (lays_none HH.out HLL.out mf mt B _ c2 msp).mono ?_
      rintro e w3 ⟨rfl, H3, hs3⟩
      go_wp2_with (fail)
      go_ret
      refine ⟨?_, ?_, hs3⟩
      · rw [decide_eq_false (p := 0 < l.length ∧ l.length < 1024) (fun h => by have := HLL.out; omega)]; rfl
      · rw [HL.out, if_neg (by have := HLL.out; omega)]; exact H3
  · obtain rfl : l = [] := by cases l with
      | nil => rfl
      | cons a l => simp at hp
    have HP := Lib.hid (picked_nos h p)
    have HH := Lib.hid h
    clear h hl hd hp
    go_enter Try.func17, Try.ntmps17
    go_wp2_with (fail)
    refine HP.out.mono ?_
    rintro e w1 ⟨rfl, rfl⟩
    go_wp2_with (fail)
    go_ret
    exact ⟨rfl, HH.out, Nat.le_refl _⟩
end
end Go.Proofs.Ytbgdcplbekoemaa
