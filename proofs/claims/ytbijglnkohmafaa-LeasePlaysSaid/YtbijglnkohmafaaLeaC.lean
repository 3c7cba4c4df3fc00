
/-
  lease: Close, Floor.
-/
import Derived.Test.YtbijglnkohmafaaLeaB
namespace Go.Proofs.Ytbijglnkohmafaa
open Go.RowKit Go.Maps
set_option linter.unusedVariables false

def cLI (l : List Int) : List Value := l.map fun z => .int .i64 z
theorem cLI_get {l : List Int} {k : Nat} (h : k < l.length) : (cLI l)[k]? = some (.int .i64 l[k]) := by simp [cLI, h]
theorem cLI_len (l : List Int) : (cLI l).length = l.length * 1 := by simp [cLI]
/-- 'delete(m, k)' at the operation. -/
theorem wpList_delM (w : World) {ops : Array Oper} {rest : List Oper} {o : Oper} {a : Act} {Q : Exit → Act → World → Prop} (hg : o.guard = none) (m x : Operand)
    (hop : o.op = Op.call { callee := Callee.builtin Builtin.delete, args := #[m, x], argTypes := #[58, 3] }) (b : Nat) (l : List LV) (hm : a.eval m = .map (some b)) (h : MapL w b l) (k : Int) (hx : a.eval x = .int .i64 k) (hk : (Lit.int .i64 k).wf = true)
    (hK : ∀ w', MapL w' b (delL l k) → Chg [b] w w' → wpList Try.prog ops Q rest (a.put o.dst (.tuple #[])) w') : wpList Try.prog ops Q (o :: rest) a w := by
  refine wpList_plain hg fun K' hK' => ?_
  obtain ⟨w', hrun, r1, r2⟩ := h.drop hk o.type
  unfold Oper.wp
  simp [execOp, hop, resolve, invoke, builtin, hm, hx, hrun, Result.andThen]
  exact hK' _ _ (hK w' r1 r2)
def delAll (l : List LV) (ids : List Int) : List LV := ids.foldl delL l
theorem delL_le (l : List LV) (k : Int) : (delL l k).length ≤ l.length := List.length_filter_le _ _
theorem delAll_le (ids : List Int) : ∀ l, (delAll l ids).length ≤ l.length := by
  induction ids with
  | nil => intro l; exact Nat.le_refl _
  | cons a ids ih => intro l; exact Nat.le_trans (ih _) (delL_le l a)
section
variable {w0 w w' : World} {gl b : Nat} {l : List LV} {nx : Nat}
theorem close_nil (w : World) (A : Option Addr) (n c : Nat) : Calls Try.prog 11 #[.pointer none, .slice A n c] w fun e w' => e = .returned (.int .i64 0) ∧ w' = w := by
  go_enter Try.func11, Try.ntmps11
  go_wp2_with (fail)
  go_ret
  exact ⟨rfl, rfl⟩
set_option maxRecDepth 100000 in
set_option maxHeartbeats 3200000 in
theorem close_all (h : LsH w0 w gl b l nx) (A : Option Addr) (n c : Nat) (ids : List Int) (hn : ids.length = n) (hI : ∀ w', Chg [b] w w' → Rd w' 1 A ids.length (cLI ids)) (hwf : ∀ k ∈ ids, (Lit.int .i64 k).wf = true) (hil : ids.length ≤ 140737488355328) (hl : l.length ≤ 1000000) :
    Calls Try.prog 11 #[.pointer (some ⟨gl, 0, none⟩), .slice A n c] w fun e w' => e = .returned (.int .i64 ((l.length : Int) - ((delAll l ids).length : Int))) ∧ LsH w0 w' gl b (delAll l ids) nx ∧ Chg [b] w w' := by
  subst hn
  have HH := Lib.hid h
  have HI := Lib.hid hI
  have HW := Lib.hid hwf
  have hne := h.ne
  have c0 : w.cell? ⟨gl, 0, none⟩ = some (.map (some b)) := h.at_.cell 0
  have hlen := fun ty => h.map.len ty
  clear h hI hwf
  go_enter Try.func11, Try.ntmps11
  go_wp2_with (fail)
  clear hlen c0
  go_loopw [17] (fun i wr => ∃ k : Nat, k ≤ ids.length ∧ i = .int .i64 k ∧ Hid (LsH w0 wr gl b (delAll l (ids.take k)) nx ∧ Chg [b] w wr)) (fun i _ => ids.length - (intOf i).toNat)
  case atStart => exact ⟨0, Nat.zero_le _, rfl, HH.out, Chg.refl _ _⟩
  case round =>
    obtain ⟨k, hk, rfl, HR⟩ := hrel
    obtain ⟨hL, hcw⟩ := HR.out
    by_cases hlt : k < ids.length
    · obtain ⟨ad, u, rfl, had, hu, hc⟩ := (HI.out _ hcw).get hlt
      obtain rfl : Value.int .i64 ids[k] = u := by rw [cLI_get hlt] at hu; simpa using hu
      have hwk := HW.out _ (List.getElem_mem hlt)
      have HT : Hid (delAll l (ids.take (k + 1)) = delL (delAll l (ids.take k)) ids[k]) := by
        unfold Hid delAll; rw [List.take_succ_eq_append_getElem hlt, List.foldl_append]; rfl
      have c0 : wr.cell? ⟨gl, 0, none⟩ = some (.map (some b)) := hL.at_.cell 0
      have HM := Lib.hid hL.map
      have HL := Lib.hid hL
      have HC := Lib.hid hcw
      have hki : (k : Int) < (ids.length : Int) := by omega
      generalize ids[k] = z at *
      clear hu HR hL hcw
      go_wp2_with (at_delete; refine wpList_delM _ rfl _ _ rfl b _ rfl HM.out z rfl hwk ?_; intro w9 hM9 hc9)
      go_roundw
      case rel => exact ⟨k + 1, by omega, by go_num, by rw [HT.out]; exact ⟨⟨HL.out.at_.keep hc9 (by simpa using hne), hM9, HL.out.new, HL.out.chg.trans hc9 (by have := HL.out.new; simp; omega)⟩, HC.out.trans hc9 (by simp)⟩⟩
      case measure => simp [intOf]; omega
    · obtain rfl : k = ids.length := by omega
      rw [List.take_length] at hL
      have c0 : wr.cell? ⟨gl, 0, none⟩ = some (.map (some b)) := hL.at_.cell 0
      have hlen := fun ty => hL.map.len ty
      have HL := Lib.hid hL
      have HC := Lib.hid hcw
      have hki : ¬ (ids.length : Int) < (ids.length : Int) := by omega
      have hle := delAll_le ids l
      clear HR hL hcw
      go_wp2_with (fail)
      go_ret
      exact ⟨rfl, HL.out, HC.out⟩
end
/-- The stamp of one. -/
def LV.st (x : LV) : St := ⟨x.m, x.c⟩
/-- The least stamp that is held, or another one that is less. -/
structure IsFloor (l : List LV) (or f : St) : Prop where
  mem : f = or ∨ ∃ x ∈ l, f = x.st
  le : cmpS f or ≤ 0
  all : ∀ x ∈ l, cmpS f x.st ≤ 0
theorem IsFloor.uniq {l : List LV} {or f g : St} (h : IsFloor l or f) (h' : IsFloor l or g) : f = g := by
  have h1 : cmpS f g ≤ 0 := by
    rcases h'.mem with e | ⟨x, hx, e⟩
    · rw [e]; exact h.le
    · rw [e]; exact h.all x hx
  have h2 : cmpS g f ≤ 0 := by
    rcases h.mem with e | ⟨x, hx, e⟩
    · rw [e]; exact h'.le
    · rw [e]; exact h'.all x hx
  have h3 := cmpS_neg f g
  obtain ⟨e1, e2⟩ := cmpS_eq.1 (show cmpS f g = 0 by omega)
  exact St.ext' e1 e2
theorem cmpS_trans {a b c : St} (h1 : cmpS a b ≤ 0) (h2 : cmpS b c ≤ 0) : cmpS a c ≤ 0 := by
  by_cases h : 0 < cmpS a c
  · have h3 := cmpS_gt.1 h
    have h1' : ¬ 0 < cmpS a b := by omega
    have h2' : ¬ 0 < cmpS b c := by omega
    rw [cmpS_gt] at h1' h2'
    omega
  · omega
/-- What a datum says of those that are held. -/
structure IsD (D : DataW Unit) (l : List LV) : Prop where
  sz : size D = l.length
  hs : ∀ k, Maps.has D (.int .i64 k) = (fndL l k).isSome
  at_ : ∀ k x, fndL l k = some x → ∀ z, D.atKey (.int .i64 k) z = hdD x.m x.c x.u
theorem MapL.isD {w : World} {b : Nat} {l : List LV} (h : MapL w b l) : ∃ D, w.ownsMap Try.prog 3 heldR b l.length D ∧ IsD D l := by
  obtain ⟨D, h1, h2, h3, h4⟩ := h.own
  exact ⟨D, h1, h2, h3, h4⟩
theorem MapL.of {w : World} {b n : Nat} {D : DataW Unit} {l : List LV} (h : w.ownsMap Try.prog 3 heldR b n D) (hD : IsD D l) (nd : (l.map LV.id).Nodup) : MapL w b l := by
  have h2 := ownsMap_tight h
  rw [hD.sz] at h2
  exact ⟨⟨D, h2, hD.sz, hD.hs, hD.at_⟩, nd⟩
theorem invK_int (key : Value) (kl : Lit) (h : keyOf Try.prog 3 key = some kl) : ∃ x, key = Value.int .i64 x := by
  obtain ⟨x, h1, _⟩ := keyOf_int_inv Try.underlying3 h
  exact ⟨x, h1⟩
def mkH (t : Int × Int × Int) : Value := .agg #[.int .i64 t.1, .int .i64 t.2.1, .int .i64 t.2.2]
theorem invV_held (v : Value) (y : DataW Unit × List MemPlace) (h : heldR v = some y) : ∃ t, v = mkH t := by
  obtain ⟨m, c, u, h1, _⟩ := heldR_inv h
  exact ⟨(m, c, u), h1⟩
theorem ranges_stable {w w' : World} {b r n cnt : Nat} {D : DataW Unit} {left : Lit → Bool} (h : w.ranges Try.prog 3 heldR b r n D left cnt) (hb : w'.heap[b]? = w.heap[b]?) (hr : w'.heap[r]? = w.heap[r]?) : w'.ranges Try.prog 3 heldR b r n D left cnt := by
  obtain ⟨es, clock, since, seen, c0, h1, h2, h3, h4, h5, h6⟩ := h
  exact ⟨es, clock, since, seen, c0, hb.trans h1, h2, h3, h4, hr.trans h5, h6⟩
theorem ranges_rlt {w : World} {b r n cnt : Nat} {D : DataW Unit} {left : Lit → Bool} (h : w.ranges Try.prog 3 heldR b r n D left cnt) : r < w.heap.size := by
  obtain ⟨es, clock, since, seen, c0, h1, h2, h3, h4, h5, h6⟩ := h
  exact (Array.getElem?_eq_some_iff.1 h5).1
theorem fnd_mem {l : List LV} (hn : (l.map LV.id).Nodup) {x : LV} (hx : x ∈ l) : fndL l x.id = some x := by
  unfold fndL
  induction l with
  | nil => simp at hx
  | cons a l ih =>
    rw [List.map_cons, List.nodup_cons] at hn
    rcases List.mem_cons.1 hx with rfl | hx
    · simp
    · rw [List.find?_cons_of_neg (by
        intro e
        exact hn.1 (by rw [show a.id = x.id by simpa using e]; exact List.mem_map_of_mem hx))]
      exact ih hn.2 hx
/-- What has come in a round. -/
theorem IsD.came {D : DataW Unit} {l : List LV} (h : IsD D l) {k : Int} {t : Int × Int × Int} {kl : Lit} {y : DataW Unit × List MemPlace} (hkey : keyOf Try.prog 3 (.int .i64 k) = some kl) (hv : heldR (mkH t) = some y) (hat : ∀ zd, D.atKey kl zd = y.1) : kl = .int .i64 k ∧ (Lit.int .i64 k).wf = true ∧ fndL l k = some ⟨k, t.1, t.2.1, t.2.2⟩ := by
  obtain ⟨k', e1, rfl, hw⟩ := keyOf_int_inv Try.underlying3 hkey
  cases e1
  have hh := has_true_of_atKey hat
  rw [h.hs] at hh
  obtain ⟨x, hx⟩ := Option.isSome_iff_exists.1 hh
  have h1 := hat (hdD 0 0 0)
  rw [h.at_ k x hx] at h1
  have h2 : heldR (mkH t) = some (hdD t.1 t.2.1 t.2.2, []) := heldR_mk _ _ _
  rw [h2] at hv
  injection hv with hv
  rw [← hv] at h1
  obtain ⟨e1, e2, e3⟩ := hdD_inj h1
  have e4 := (fndL_some hx).2
  obtain ⟨xi, xm, xc, xu⟩ := x
  simp only at e1 e2 e3 e4
  subst e1 e2 e3 e4
  exact ⟨rfl, hw, hx⟩
section
variable {w0 w w' : World} {gl b : Nat} {l : List LV} {nx : Nat}
set_option maxHeartbeats 1600000 in
theorem floor_nil (w : World) (m c : Int) : Calls Try.prog 15 #[.pointer none, .agg #[.int .i64 m, .int .i64 c]] w fun e w' => e = .returned (.agg #[.int .i64 m, .int .i64 c]) ∧ Chg [] w w' := by
  have z0 := (At.new w 29 #[.int .i64 m, .int .i64 c]).al (.cells #[.int .i64 0, .int .i64 0] 29)
  have z1 := At.newG (w.alloc (.cells #[.int .i64 m, .int .i64 c] 29)) 29 #[.int .i64 0, .int .i64 0] (g := w.heap.size + 1) (by simp)
  obtain ⟨x0, x1, _⟩ := z0.st
  obtain ⟨y0, y1, _⟩ := z1.st
  have f0 := z1.free 0
  have f1 := z1.free 1
  go_enter Try.func15, Try.ntmps15
  go_wp2_with (fail)
  refine ret_st (g := w.heap.size + 1) (T := 29) (m := m) (c := c) Try.results15 rfl ?_ ?_
  · exact At.newG _ _ _ (by simp)
  · exact ⟨rfl, ((Chg.refl _ _).alloc _).alloc _⟩
set_option maxRecDepth 100000 in
set_option maxHeartbeats 6400000 in
theorem floor_all (h : LsH w0 w gl b l nx) (m c : Int) : Calls Try.prog 15 #[.pointer (some ⟨gl, 0, none⟩), .agg #[.int .i64 m, .int .i64 c]] w fun e w' => ∃ f : St, e = .returned (.agg #[.int .i64 f.m, .int .i64 f.c]) ∧ IsFloor l ⟨m, c⟩ f ∧ Chg [] w w' := by
  have q0 := ((Chg.refl [] w).alloc (.cells #[.int .i64 m, .int .i64 c] 29)).alloc (.cells #[.int .i64 0, .int .i64 0] 29)
  have z0 := Lib.hid ((At.new w 29 #[.int .i64 m, .int .i64 c]).al (.cells #[.int .i64 0, .int .i64 0] 29))
  have z1 := Lib.hid (At.newG (w.alloc (.cells #[.int .i64 m, .int .i64 c] 29)) 29 #[.int .i64 0, .int .i64 0] (g := w.heap.size + 1) (by simp))
  have H0 := Lib.hid (h.k0 q0)
  have c0 : ((w.alloc (.cells #[.int .i64 m, .int .i64 c] 29)).alloc (.cells #[.int .i64 0, .int .i64 0] 29)).cell? ⟨gl, 0, none⟩ = some (.map (some b)) := H0.out.at_.cell 0
  have HQ := Lib.hid q0
  have hsz : ((w.alloc (.cells #[.int .i64 m, .int .i64 c] 29)).alloc (.cells #[.int .i64 0, .int .i64 0] 29)).heap.size = w.heap.size + 2 := by simp
  have HSZ := Lib.hid hsz
  have HND := Lib.hid h.map.nd
  have HGL := Lib.hid h.map.lt
  clear h q0 hsz
  go_enter Try.func15, Try.ntmps15
  go_upto_region 3 with (fail)
  generalize (w.alloc (.cells #[.int .i64 m, .int .i64 c] 29)).alloc (.cells #[.int .i64 0, .int .i64 0] 29) = w2 at *
  obtain ⟨D, hown, hD⟩ := H0.out.map.isD
  have HD := Lib.hid hD
  clear hD
  go_wp2_with (at_range; refine wpList_range_own _ rfl _ 58 rfl 3 65 kInt Try.underlying58 heldR b l.length D rfl hown ?_; intro w3 hrg3 hg3 hs3)
  go_frame
  have HC3 : Hid (Chg [] w2 w3) := by
    have h1 := Chg.of_grown hg3
    exact h1.mono (by simp)
  have HL3 := Lib.hid (H0.out.k0 HC3.out)
  have HR3 := Lib.hid hrg3
  have hrw : w.heap.size ≤ w2.heap.size := HQ.out.size
  have HB : Hid (b < w2.heap.size) := H0.out.map.lt
  clear hg3 hs3 hrg3 c0 hown
  generalize hgr : w2.heap.size = r at *
  have HZ0 := Lib.hid (z0.out.keep HC3.out (by simp))
  have HZ1 := Lib.hid (z1.out.keep HC3.out (by simp))
  have HS : Hid (w.heap.size + 2 = r) := HSZ.out.symm
  clear z0 z1 HSZ H0
  go_loopw [15] (fun _ wr => ∃ (left : Lit → Bool) (cnt : Nat) (f : St), wr.ranges Try.prog 3 heldR b r l.length D left cnt ∧ Hid (At wr w.heap.size 29 #[.int .i64 f.m, .int .i64 f.c] ∧ At wr (w.heap.size + 1) 29 #[.int .i64 0, .int .i64 0] ∧ Chg [] w wr) ∧ Hid ((f = ⟨m, c⟩ ∨ ∃ x ∈ l, f = x.st) ∧ cmpS f ⟨m, c⟩ ≤ 0 ∧ ∀ x ∈ l, left (.int .i64 x.id) = false → cmpS f x.st ≤ 0)) (fun _ wr => wr.rangeLeft b r)
  case atStart => exact ⟨_, _, ⟨m, c⟩, HR3.out, ⟨HZ0.out, HZ1.out, HQ.out.trans HC3.out (by simp)⟩, .inl rfl, by rw [(cmpS_eq (a := ⟨m, c⟩) (b := ⟨m, c⟩)).2 ⟨rfl, rfl⟩]; omega, fun x hx h0 => by
    rw [HD.out.hs] at h0
    have : fndL l x.id ≠ none := fun e => fndL_none e x hx rfl
    cases h9 : fndL l x.id with
    | none => exact absurd h9 this
    | some y => rw [h9] at h0; simp at h0⟩
  case round =>
    clear HR3 HZ0 HZ1 HL3
    obtain ⟨left, cnt, f, hrg, HA, HF⟩ := hrel
    go_wp2_with (at_next; refine wpList_next_ranges _ rfl _ rfl 3 kInt heldR (Value.int .i64) mkH invK_int invV_held b r l.length D left cnt rfl hrg ?_ ?_)
    · intro _ hl0
      obtain ⟨x0, x1, _⟩ := HA.out.1.st
      obtain ⟨y0, y1, _⟩ := HA.out.2.1.st
      have f0 := HA.out.2.1.free 0
      have f1 := HA.out.2.1.free 1
      clear hrg
      go_wp2_with (fail)
      refine ret_st (g := w.heap.size + 1) (T := 29) (m := f.m) (c := f.c) Try.results15 rfl ?_ ?_
      · exact HA.out.2.1.set2 _ _
      · refine ⟨f, rfl, ⟨HF.out.1, HF.out.2.1, fun x hx => HF.out.2.2 x hx (hl0 _)⟩, HA.out.2.2.set2 (.inr (by omega)) _ _⟩
    · intro k tm tc tu kl y1 y2 w4 cnt4 hkey hlk hv hat hrg4 hlt4 hg4 hs4 hen
      obtain ⟨rfl, hkw, hfk⟩ := HD.out.came (t := (tm, tc, tu)) (y := (y1, y2)) hkey hv hat
      simp only [mkH] at hen
      simp only at hfk
      have hcg4 : Chg [r] wr w4 := by
        have h1 := Chg.of_grown hg4
        exact h1.mono (by simp)
      have q5 := (Chg.refl [] w4).alloc (.cells #[.int .i64 tm, .int .i64 tc, .int .i64 tu] 65)
      have hSr := HS.out
      have hA4 := HA.out.1.keep hcg4 (by simp; omega)
      have hB4 := HA.out.2.1.keep hcg4 (by simp; omega)
      have hC4 : Hid (Chg [] w w4) := HA.out.2.2.trans hcg4 (by simp; omega)
      have hA5 := Lib.hid (hA4.keep q5 (by simp))
      have hB5 := Lib.hid (hB4.keep q5 (by simp))
      have T5 := Lib.hid (At.new w4 65 #[.int .i64 tm, .int .i64 tc, .int .i64 tu])
      obtain ⟨x0, x1, _⟩ := hA5.out.st
      have v0 := T5.out.cell 0
      have v1 := T5.out.cell 1
      have v2 := T5.out.cell 2
      simp only [List.getElem?_toArray, List.getElem?_cons_zero, List.getElem?_cons_succ] at v0 v1 v2
      have HR4 := Lib.hid hrg4
      have HL4 := Lib.hid hlt4
      have HRo := Lib.hid hrg
      have hr4 : r < w4.heap.size := (ranges_rlt hrg4)
      have hb4 : b < w4.heap.size := hrg4.owns.lt
      have HFk := Lib.hid hfk
      have HLk := Lib.hid hlk
      clear hkey hv hat hrg4 hlt4 hg4 hs4 hrg hfk hlk hA4 hB4 hcg4
      go_wp2_with (fail)
      refine (compare_any tm tc f.m f.c _).mono ?_
      rintro e w5 ⟨rfl, hc5⟩
      have hq5 : Hid (Chg [] w4 w5) := q5.trans hc5 (by simp)
      have HA5 := Lib.hid (hA5.out.keep hc5 (by simp))
      have HB5 := Lib.hid (hB5.out.keep hc5 (by simp))
      have HT5 := Lib.hid (T5.out.keep hc5 (by simp))
      have HR5 := Lib.hid (ranges_stable HR4.out (hq5.out.block b hb4 (by simp)) (hq5.out.block r hr4 (by simp)))
      clear x0 x1 v0 v1 v2 hA5 hB5 T5 hc5 q5
      have HX : Hid (∀ x ∈ l, (left (.int .i64 x.id) && !(Lit.int .i64 x.id).sameKey (.int .i64 k)) = false → left (.int .i64 x.id) = false ∨ x = ⟨k, tm, tc, tu⟩) := fun x hx h0 => by
        cases h1 : left (.int .i64 x.id)
        · exact .inl rfl
        · rw [h1] at h0
          have h2 : (Lit.int .i64 x.id).sameKey (.int .i64 k) = true := by simpa using h0
          have h3 := WideAt.sameKey_eq h2
          injection h3 with _ h3
          refine .inr ?_
          have h4 := fnd_mem HND.out hx
          rw [h3, HFk.out] at h4
          injection h4 with h4
          exact h4.symm
      by_cases hlt : cmpS ⟨tm, tc⟩ ⟨f.m, f.c⟩ < 0
      · have hb1 : decide (cmpS ⟨tm, tc⟩ ⟨f.m, f.c⟩ < 0) = true := decide_eq_true hlt
        obtain ⟨x0, x1, _⟩ := HA5.out.st
        have fx0 := HA5.out.free 0
        have fx1 := HA5.out.free 1
        have v0 := HT5.out.cell 0
        have v1 := HT5.out.cell 1
        simp only [List.getElem?_toArray, List.getElem?_cons_zero, List.getElem?_cons_succ] at v0 v1
        have q6 : Chg [w.heap.size] w5 ((w5.setCell ⟨w.heap.size, 0, none⟩ (.int .i64 tm)).setCell ⟨w.heap.size, 1, none⟩ (.int .i64 tc)) := (Chg.refl _ _).set2 (.inl (by simp)) _ _
        have hr5 : r < w5.heap.size := (ranges_rlt HR5.out)
        have hb5 : b < w5.heap.size := HR5.out.owns.lt
        have hbw : b ≠ w.heap.size := Nat.ne_of_lt (by have := HGL.out; omega)
        have HR6 := Lib.hid (ranges_stable HR5.out (q6.block b hb5 (by simpa using hbw)) (q6.block r hr5 (by simp; omega)))
        have HP : Hid (At ((w5.setCell ⟨w.heap.size, 0, none⟩ (.int .i64 tm)).setCell ⟨w.heap.size, 1, none⟩ (.int .i64 tc)) w.heap.size 29 #[.int .i64 tm, .int .i64 tc] ∧ At ((w5.setCell ⟨w.heap.size, 0, none⟩ (.int .i64 tm)).setCell ⟨w.heap.size, 1, none⟩ (.int .i64 tc)) (w.heap.size + 1) 29 #[.int .i64 0, .int .i64 0] ∧ Chg [] w ((w5.setCell ⟨w.heap.size, 0, none⟩ (.int .i64 tm)).setCell ⟨w.heap.size, 1, none⟩ (.int .i64 tc))) :=
          ⟨HA5.out.set2 _ _, HB5.out.keep q6 (by simp), (hC4.out.trans hq5.out (by simp)).trans q6 (by simp)⟩
        have HF6 : Hid (((⟨tm, tc⟩ : St) = ⟨m, c⟩ ∨ ∃ x ∈ l, (⟨tm, tc⟩ : St) = x.st) ∧ cmpS ⟨tm, tc⟩ ⟨m, c⟩ ≤ 0 ∧ ∀ x ∈ l, (left (.int .i64 x.id) && !(Lit.int .i64 x.id).sameKey (.int .i64 k)) = false → cmpS ⟨tm, tc⟩ x.st ≤ 0) :=
          ⟨.inr ⟨_, (fndL_some HFk.out).1, rfl⟩, cmpS_trans (b := f) (by have : (⟨f.m, f.c⟩ : St) = f := rfl; rw [this] at hlt; omega) HF.out.2.1, fun x hx h0 => by
            rcases HX.out x hx h0 with h1 | rfl
            · exact cmpS_trans (b := f) (by have : (⟨f.m, f.c⟩ : St) = f := rfl; rw [this] at hlt; omega) (HF.out.2.2 x hx h1)
            · have : cmpS ⟨tm, tc⟩ (LV.st ⟨k, tm, tc, tu⟩) = 0 := cmpS_eq.2 ⟨rfl, rfl⟩
              omega⟩
        clear q6
        go_wp2_with (fail)
        go_roundw
        case rel => exact ⟨_, cnt4, ⟨tm, tc⟩, HR6.out, HP.out, HF6.out⟩
        case measure => rw [HR6.out.left_eq, HRo.out.left_eq]; exact HL4.out
      · have hb1 : decide (cmpS ⟨tm, tc⟩ ⟨f.m, f.c⟩ < 0) = false := decide_eq_false hlt
        have HP : Hid (At w5 w.heap.size 29 #[.int .i64 f.m, .int .i64 f.c] ∧ At w5 (w.heap.size + 1) 29 #[.int .i64 0, .int .i64 0] ∧ Chg [] w w5) := ⟨HA5.out, HB5.out, hC4.out.trans hq5.out (by simp)⟩
        have HF6 : Hid ((f = ⟨m, c⟩ ∨ ∃ x ∈ l, f = x.st) ∧ cmpS f ⟨m, c⟩ ≤ 0 ∧ ∀ x ∈ l, (left (.int .i64 x.id) && !(Lit.int .i64 x.id).sameKey (.int .i64 k)) = false → cmpS f x.st ≤ 0) :=
          ⟨HF.out.1, HF.out.2.1, fun x hx h0 => by
            rcases HX.out x hx h0 with h1 | rfl
            · exact HF.out.2.2 x hx h1
            · have h2 := cmpS_neg f ⟨tm, tc⟩
              have : (⟨f.m, f.c⟩ : St) = f := rfl
              rw [this] at hlt
              show cmpS f ⟨tm, tc⟩ ≤ 0
              omega⟩
        go_wp2_with (fail)
        go_roundw
        case rel => exact ⟨_, cnt4, f, HR5.out, HP.out, HF6.out⟩
        case measure => rw [HR5.out.left_eq, HRo.out.left_eq]; exact HL4.out
end
end Go.Proofs.Ytbijglnkohmafaa
