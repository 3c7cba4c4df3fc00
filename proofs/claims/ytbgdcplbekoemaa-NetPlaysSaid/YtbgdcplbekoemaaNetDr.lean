
/-
  net: Drop: slices.DeleteFunc with the closure.
-/
import Derived.Test.YtbgdcplbekoemaaNetSp
import Derived.Test.YtbgdcplbekoemaaNetG
import Derived.Test.YtbgdcplbekoemaaClear
import Derived.Deep.DeepCutAuto
namespace Go.Proofs.Ytbgdcplbekoemaa
open Go.RowKit
set_option linter.unusedVariables false
set_option linter.unusedSimpArgs false

theorem At.setL {w : World} {g : Nat} {t : TypeId} {l : List Value} (h : At w g t l.toArray) (k : Nat) (u : Value) : At (w.setCell ⟨g, k, none⟩ u) g t (l.set k u).toArray := by
  have := h.set_ k u
  simpa using this
set_option maxHeartbeats 1600000 in
theorem index_any (w : World) (B : Option Addr) (n c : Nat) (ids : List Int) (hn : ids.length = n) (hr : Rd w 1 B ids.length (cI ids)) (hl : ids.length ≤ 140737488355328) (z : Int) :
    Calls Try.prog 43 #[.slice B n c, .int .i64 z] w fun e w' => ∃ r : Int, e = .returned (.int .i64 r) ∧ w' = w ∧ decide (0 ≤ r) = ids.contains z := by
  subst hn
  have HR := Lib.hid hr
  clear hr
  go_enter Try.func43, Try.ntmps43
  go_wp2_with (fail)
  go_loopw [8] (fun i wr => ∃ q : Nat, q ≤ ids.length ∧ i = .int .i64 q ∧ Hid ((ids.take q).contains z = false) ∧ wr = w) (fun i _ => ids.length - (intOf i).toNat)
  case atStart => exact ⟨0, Nat.zero_le _, rfl, rfl, rfl⟩
  case round =>
    obtain ⟨q, hq, rfl, HQ, rfl⟩ := hrel
    by_cases hlt : q < ids.length
    · obtain ⟨ad, u, rfl, had, hu, hc⟩ := HR.out.get hlt
      obtain rfl : Value.int .i64 ids[q] = u := by rw [cI_get hlt] at hu; simpa using hu
      have HT : Hid ((ids.take (q + 1)).contains z = (z == ids[q])) := by
        unfold Hid
        rw [List.take_succ_eq_append_getElem hlt, List.contains_eq_any_beq, List.any_append]
        have h := HQ.out
        rw [List.contains_eq_any_beq] at h
        rw [h]; simp
      have HM : Hid (z = ids[q] → ids.contains z = true) := fun e => by rw [e]; simp
      have hqi : (q : Int) < (ids.length : Int) := by omega
      generalize ids[q] = y at *
      clear hu HQ
      by_cases he : z = y
      · have HMM := Lib.hid (HM.out he)
        have hb : (z == y) = true := by rw [he]; simp
        clear HM HT he
        go_wp2_with (fail)
        go_ret
        exact ⟨q, rfl, rfl, by rw [HMM.out]; exact decide_eq_true (by omega)⟩
      · have hb : (z == y) = false := by rw [beq_eq_false_iff_ne]; exact he
        rw [hb] at HT
        clear HM he
        go_wp2_with (fail)
        go_roundw
        case rel => exact ⟨q + 1, by omega, by go_num, HT, trivial⟩
        case measure => simp [intOf]; omega
    · obtain rfl : q = ids.length := by omega
      rw [List.take_length] at HQ
      have hqi : ¬ (ids.length : Int) < (ids.length : Int) := by omega
      go_wp2_with (fail)
      go_ret
      exact ⟨-1, rfl, rfl, by first | (rw [HQ.out]; rfl) | (have h := HQ.out; simp at h; simp [h])⟩
theorem contains_any (w : World) (B : Option Addr) (n c : Nat) (ids : List Int) (hn : ids.length = n) (hr : Rd w 1 B ids.length (cI ids)) (hl : ids.length ≤ 140737488355328) (z : Int) :
    Calls Try.prog 37 #[.slice B n c, .int .i64 z] w fun e w' => e = .returned (.bool (ids.contains z)) ∧ w' = w := by
  have HI := Lib.hid (index_any w B n c ids hn hr hl z)
  clear hr
  go_enter Try.func37, Try.ntmps37
  go_wp2_with (fail)
  refine HI.out.mono ?_
  rintro e w1 ⟨r, rfl, rfl, hb⟩
  have HB := Lib.hid hb
  clear hb
  go_wp2_with (fail)
  go_ret
  exact ⟨by rw [← HB.out]; first | rfl | skip, rfl⟩
/-- Is a message one of these nodes'? -/
def offN (ids : List Int) (f t : Int) : Bool := ids.contains f || ids.contains t
set_option maxHeartbeats 1600000 in
theorem drop1_any (w : World) (gb : Nat) (B : Option Addr) (n c : Nat) (ids : List Int) (hn : ids.length = n) (hr : Rd w 1 B ids.length (cI ids)) (hl : ids.length ≤ 140737488355328) (hg : w.cell? ⟨gb, 0, none⟩ = some (.slice B n c)) (hgl : gb < w.heap.size) (f t : Int) (D : Option Addr) (m c2 : Nat) (sp : Bool) :
    Calls Try.prog 36 #[.agg #[.int .i64 f, .int .i64 t, .slice D m c2, .bool sp], .pointer (some ⟨gb, 0, none⟩)] w fun e w' => e = .returned (.bool (offN ids f t)) ∧ Chg [] w w' := by
  have q := (Chg.refl [] w).alloc (.cells #[.int .i64 f, .int .i64 t, .slice D m c2, .bool sp] 59)
  have hg1 := (q.cell (p := ⟨gb, 0, none⟩) hgl (by simp)).trans hg
  have z := At.new w 59 #[.int .i64 f, .int .i64 t, .slice D m c2, .bool sp]
  have z0 := z.cell 0
  have z1 := z.cell 1
  simp only [List.getElem?_toArray, List.getElem?_cons_zero, List.getElem?_cons_succ] at z0 z1
  have C0 := Lib.hid (contains_any _ B n c ids hn (hr.keep0 q) hl f)
  have C1 := Lib.hid (contains_any _ B n c ids hn (hr.keep0 q) hl t)
  unfold offN
  clear z hr hg
  cases hb : ids.contains f
  · rw [hb] at C0
    rw [Bool.false_or]
    generalize ids.contains t = b2 at *
    go_enter Try.func36, Try.ntmps36
    go_wp2_with (fail)
    refine C0.out.mono ?_
    rintro e w1 ⟨rfl, rfl⟩
    go_wp2_with (fail)
    refine C1.out.mono ?_
    rintro e w1 ⟨rfl, rfl⟩
    go_wp2_with (fail)
    go_ret
    exact ⟨rfl, q⟩
  · rw [hb] at C0
    rw [Bool.true_or]
    go_enter Try.func36, Try.ntmps36
    go_wp2_with (fail)
    refine C0.out.mono ?_
    rintro e w1 ⟨rfl, rfl⟩
    go_wp2_with (fail)
    go_ret
    exact ⟨rfl, q⟩
/-- Those that stay. -/
def stayU (ids : List Int) (ms : List UdV) : List UdV := ms.filter fun m => !(offN ids m.f m.t)
theorem stayU_snoc (ids : List Int) (ms : List UdV) (m : UdV) : stayU ids (ms ++ [m]) = if offN ids m.f m.t then stayU ids ms else stayU ids ms ++ [m] := by
  unfold stayU
  rw [List.filter_append]
  cases h : offN ids m.f m.t <;> simp [h]
theorem stayU_all {ids : List Int} {ms : List UdV} (h : ∀ m ∈ ms, offN ids m.f m.t = false) : stayU ids ms = ms := by
  unfold stayU
  rw [List.filter_eq_self]
  intro m hm
  rw [h m hm]; rfl
theorem stayU_le (ids : List Int) (ms : List UdV) : (stayU ids ms).length ≤ ms.length := List.length_filter_le _ _
section
variable {w0 w w' : World} {gn g gb : Nat} {A B : Option Addr} {c n cb : Nat} {ms : List UdV} {ids : List Int} {l : List MV} {rs : List Res}
/-- The closure's premises. -/
structure ClP (w : World) (gb : Nat) (B : Option Addr) (n cb : Nat) (ids : List Int) : Prop where
  at_ : At w gb 23 #[.slice B n cb]
  rd : Rd w 1 B ids.length (cI ids)
theorem ClP.keep (h : ClP w gb B n cb ids) {S : List Nat} (hc : Chg S w w') (h1 : gb ∉ S) (h2 : ∀ w', Chg S w w' → Rd w' 1 B ids.length (cI ids)) : ClP w' gb B n cb ids := ⟨h.at_.keep hc h1, h2 w' hc⟩
theorem ClP.call (h : ClP w gb B n cb ids) (hn : ids.length = n) (hl : ids.length ≤ 140737488355328) (f t : Int) (D : Option Addr) (m c2 : Nat) (sp : Bool) :
    Calls Try.prog 36 #[.agg #[.int .i64 f, .int .i64 t, .slice D m c2, .bool sp], .pointer (some ⟨gb, 0, none⟩)] w fun e w' => e = .returned (.bool (offN ids f t)) ∧ Chg [] w w' :=
  drop1_any w gb B n cb ids hn h.rd hl (h.at_.cell 0) h.at_.lt f t D m c2 sp
theorem rowcells (h : w.ownsRow w0.heap.size 59 4 (.slice A ms.length c) ms.length (cUd ms)) {q : Nat} (hq : q < ms.length) : ∃ g, A = some ⟨g, 0, none⟩ ∧ g < w.heap.size ∧ w.cell? ⟨g, q * 4, none⟩ = some (.int .i64 ms[q].f) ∧ w.cell? ⟨g, q * 4 + 1, none⟩ = some (.int .i64 ms[q].t) ∧ w.cell? ⟨g, q * 4 + 2, none⟩ = some (.slice ms[q].A ms[q].d.length ms[q].cp) ∧ w.cell? ⟨g, q * 4 + 3, none⟩ = some (.bool ms[q].sp) := by
  obtain ⟨g, rfl⟩ : ∃ g, A = some ⟨g, 0, none⟩ := by
    rcases h.2 with ⟨_, h4⟩ | ⟨g, cap, cur, h4, _⟩
    · omega
    · injection h4 with h4; exact ⟨g, h4⟩
  have hR : ∀ (j : Nat) (hj : j < 4) u, (ms[q].cells)[j]? = some u → w.cell? ⟨g, q * 4 + j, none⟩ = some u := fun j hj u hu => by
    obtain ⟨ad, ha, _, hc⟩ := (Rd.of_own h).at_ (by omega)
    obtain rfl : ad = ⟨g, 0, none⟩ := by injection ha with ha; exact ha.symm
    have := hc (q * 4 + j) u (by rw [cUd_get hq hj]; exact hu)
    have e : (⟨g, 0, none⟩ : Addr).add (q * 4 + j) = ⟨g, q * 4 + j, none⟩ := by unfold Addr.add; split <;> simp_all
    rwa [e] at this
  exact ⟨g, rfl, (own_in h g (by simp [blk])).2, hR 0 (by omega) _ rfl, hR 1 (by omega) _ rfl, hR 2 (by omega) _ rfl, hR 3 (by omega) _ rfl⟩
set_option maxHeartbeats 3200000 in
theorem indexF_any (h : w.ownsRow w0.heap.size 59 4 (.slice A ms.length c) ms.length (cUd ms)) (hl : ms.length ≤ 1000000) (hC : ClP w gb B n cb ids) (hn : ids.length = n) (hil : ids.length ≤ 140737488355328) :
    Calls Try.prog 42 #[.slice A ms.length c, .func (Fn.func 36) #[] #[.pointer (some ⟨gb, 0, none⟩)]] w fun e w' => ∃ r : Int, e = .returned (.int .i64 r) ∧ Chg [] w w' ∧ ((r = -1 ∧ ∀ m ∈ ms, offN ids m.f m.t = false) ∨ ∃ q : Nat, r = q ∧ ∃ hq : q < ms.length, offN ids ms[q].f ms[q].t = true ∧ ∀ m ∈ ms.take q, offN ids m.f m.t = false) := by
  have HH := Lib.hid h
  have HC := Lib.hid hC
  clear h hC
  go_enter Try.func42, Try.ntmps42
  go_wp2_with (fail)
  go_loopw [8] (fun i wr => ∃ q : Nat, q ≤ ms.length ∧ i = .int .i64 q ∧ Hid (∀ m ∈ ms.take q, offN ids m.f m.t = false) ∧ Hid (Chg [] w wr)) (fun i _ => ms.length - (intOf i).toNat)
  case atStart => exact ⟨0, Nat.zero_le _, rfl, (by intro m hm; simp at hm), Chg.refl _ _⟩
  case round =>
    obtain ⟨q, hq, rfl, HQ, HK⟩ := hrel
    by_cases hlt : q < ms.length
    · obtain ⟨g, rfl, hg, r0, r1, r2, r3⟩ := rowcells (own_k0 HH.out HK.out) hlt
      have hqi : (q : Int) < (ms.length : Int) := by omega
      have HCC := Lib.hid ((HC.out.keep HK.out (by simp) (fun w' hc => HC.out.rd.keep0 hc)).call hn hil ms[q].f ms[q].t ms[q].A ms[q].d.length ms[q].cp ms[q].sp)
      have HT : Hid (offN ids ms[q].f ms[q].t = false → ∀ m ∈ ms.take (q + 1), offN ids m.f m.t = false) := fun h0 m hm => by
        rw [List.take_succ_eq_append_getElem hlt] at hm
        rcases List.mem_append.1 hm with hm | hm
        · exact HQ.out m hm
        · obtain rfl := List.mem_singleton.1 hm; exact h0
      have HY : Hid (offN ids ms[q].f ms[q].t = true → ∃ k : Nat, (q : Int) = k ∧ ∃ hq : k < ms.length, offN ids ms[k].f ms[k].t = true ∧ ∀ m ∈ ms.take k, offN ids m.f m.t = false) := fun h1 => ⟨q, rfl, hlt, h1, HQ.out⟩
      generalize ms[q] = x at *
      obtain ⟨xf, xt, xd, xA, xc, xs⟩ := x
      simp only at r0 r1 r2 r3 HCC HT HY
      clear HQ
      cases hb : offN ids xf xt
      · have HTT := Lib.hid (HT.out hb)
        rw [hb] at HCC
        clear HT HY
        go_wp2_with (fail)
        refine HCC.out.mono ?_
        rintro e w2 ⟨rfl, hc2⟩
        have HK2 : Hid (Chg [] w w2) := HK.out.trans hc2 (by simp)
        clear r0 r1 r2 r3 hc2
        go_wp2_with (fail)
        go_roundw
        case rel => exact ⟨q + 1, by omega, by go_num, HTT, HK2⟩
        case measure => simp [intOf]; omega
      · have HYY := Lib.hid (HY.out hb)
        rw [hb] at HCC
        clear HT HY
        go_wp2_with (fail)
        refine HCC.out.mono ?_
        rintro e w2 ⟨rfl, hc2⟩
        have HK2 : Hid (Chg [] w w2) := HK.out.trans hc2 (by simp)
        clear r0 r1 r2 r3 hc2
        go_wp2_with (fail)
        go_ret
        exact ⟨q, rfl, HK2.out, .inr HYY.out⟩
    · obtain rfl : q = ms.length := by omega
      rw [List.take_length] at HQ
      have hqi : ¬ (ms.length : Int) < (ms.length : Int) := by omega
      go_wp2_with (fail)
      go_ret
      exact ⟨-1, rfl, HK.out, .inl ⟨rfl, HQ.out⟩⟩
end
end Go.Proofs.Ytbgdcplbekoemaa
