
/-
  net: New, Give, Late, Twice.
-/
import Derived.Test.YtbgdcplbekoemaaNetA
namespace Go.Proofs.Ytbgdcplbekoemaa
open Go.RowKit
set_option linter.unusedVariables false
attribute [local go_sem ↓] run_min2 run_max2
section
variable {w0 w w' : World} {gn : Nat} {l : List MV} {rs : List Res}
theorem new_all (h : All w0 w rs) : Calls Try.prog 10 #[] w fun e w' => ∃ gn, e = .returned (.pointer (some ⟨gn, 0, none⟩)) ∧ NetA w0 w' gn [] rs ∧ w.heap.size ≤ w'.heap.size ∧ w.heap.size ≤ gn := by
  go_enter Try.func10, Try.ntmps10
  go_wp2_with (fail)
  go_ret
  have hc : Chg [] w (w.alloc (.cells #[.slice none 0 0] 56)) := (Chg.refl _ _).alloc _
  refine ⟨w.heap.size, rfl, ⟨none, 0, [], rfl, h.new hc _ (fun b hb => ?_) (by simp [rNet, netF, blk, datF]) ⟨At.new _ _ _, own_none _ _ _ _, by simp⟩ (rNet_stable _ _ _ _ _)⟩, hc.size, Nat.le_refl _⟩
  have hb2 : b = w.heap.size := by simpa [rNet, netF, blk, datF] using hb
  subst hb2
  simp
theorem takes_nil (w : World) (p : Int) : Calls Try.prog 25 #[.pointer none, .int .i64 p] w fun e w' => e = .returned (.tuple #[.agg #[.int .i64 0, .int .i64 0, .slice none 0 0, .bool false], .bool false]) ∧ Chg [] w w' := by
  have HP := Lib.hid (fun w => picked_nil w p)
  have z0 := At.new w 59 #[.int .i64 0, .int .i64 0, .slice none 0 0, .bool false]
  have q0 := (Chg.refl [] w).alloc (.cells #[.int .i64 0, .int .i64 0, .slice none 0 0, .bool false] 59)
  go_enter Try.func25, Try.ntmps25
  go_wp2_with (fail)
  refine (HP.out _).mono ?_
  rintro e w1 ⟨rfl, hw1⟩
  rw [← hw1] at z0 q0
  clear hw1
  have fu0 := z0.free 0
  have fu1 := z0.free 1
  have fu2 := z0.free 2
  have fu3 := z0.free 3
  have u0 := z0.cell 0
  have u1 := z0.cell 1
  have u2 := z0.cell 2
  have u3 := z0.cell 3
  simp only [List.getElem?_toArray, List.getElem?_cons_zero, List.getElem?_cons_succ] at u0 u1 u2 u3
  go_wp2_with (fail)
  refine ret_und2 (g := w.heap.size) (T := 59) (cs := #[.int .i64 0, .int .i64 0, .slice none 0 0, .bool false]) rfl Try.results25 rfl rfl ?_ ?_
  · have h := (((z0.set_ 0 (.int .i64 0)).set_ 1 (.int .i64 0)).set_ 2 (.slice none 0 0)).set_ 3 (.bool false)
    simpa using h
  · exact ⟨rfl, (((q0.setCell (.inr (by simp)) _).setCell (.inr (by simp)) _).setCell (.inr (by simp)) _).setCell (.inr (by simp)) _⟩
theorem takes_none (h : NetA w0 w gn [] rs) (p : Int) : Calls Try.prog 25 #[.pointer (some ⟨gn, 0, none⟩), .int .i64 p] w fun e w' => e = .returned (.tuple #[.agg #[.int .i64 0, .int .i64 0, .slice none 0 0, .bool false], .bool false]) ∧ Chg [] w w' := by
  have HP := Lib.hid (fun w h => picked_nos (w0 := w0) (w := w) (gn := gn) (rs := rs) h p)
  have z0 := At.new w 59 #[.int .i64 0, .int .i64 0, .slice none 0 0, .bool false]
  have q0 := (Chg.refl [] w).alloc (.cells #[.int .i64 0, .int .i64 0, .slice none 0 0, .bool false] 59)
  have H0 := Lib.hid (h.quiet q0)
  clear h
  go_enter Try.func25, Try.ntmps25
  go_wp2_with (fail)
  refine (HP.out _ H0.out).mono ?_
  rintro e w1 ⟨rfl, hw1⟩
  rw [← hw1] at z0 q0
  clear hw1
  have fu0 := z0.free 0
  have fu1 := z0.free 1
  have fu2 := z0.free 2
  have fu3 := z0.free 3
  have u0 := z0.cell 0
  have u1 := z0.cell 1
  have u2 := z0.cell 2
  have u3 := z0.cell 3
  simp only [List.getElem?_toArray, List.getElem?_cons_zero, List.getElem?_cons_succ] at u0 u1 u2 u3
  go_wp2_with (fail)
  refine ret_und2 (g := w.heap.size) (T := 59) (cs := #[.int .i64 0, .int .i64 0, .slice none 0 0, .bool false]) rfl Try.results25 rfl rfl ?_ ?_
  · have h := (((z0.set_ 0 (.int .i64 0)).set_ 1 (.int .i64 0)).set_ 2 (.slice none 0 0)).set_ 3 (.bool false)
    simpa using h
  · exact ⟨rfl, (((q0.setCell (.inr (by simp)) _).setCell (.inr (by simp)) _).setCell (.inr (by simp)) _).setCell (.inr (by simp)) _⟩
/-- A message goes behind all others. -/
def lateL (l : List MV) (p : Int) : List MV := l.eraseIdx (pickN p l.length) ++ (l[pickN p l.length]?).toList
theorem late_all (h : NetA w0 w gn l rs) (hl : l.length ≤ 1024) (hd : ∀ m ∈ l, m.d.length ≤ 1099511627776) (p : Int) :
    Calls Try.prog 12 #[.pointer (some ⟨gn, 0, none⟩), .int .i64 p] w fun e w' => e = .returned (.bool (decide (0 < l.length))) ∧ NetA w0 w' gn (lateL l p) rs ∧ w.heap.size ≤ w'.heap.size := by
  by_cases hp : 0 < l.length
  · obtain ⟨m, hm⟩ : ∃ m, l[pickN p l.length]? = some m := ⟨_, List.getElem?_eq_getElem (pickN_lt hp)⟩
    have HT := Lib.hid (takes_all h hl hp p _ rfl m hm)
    have HL : Hid (lateL l p = l.eraseIdx (pickN p l.length) ++ [⟨m.f, m.t, m.d, m.sp⟩]) := by unfold Hid lateL; rw [hm]; rfl
    have hel := List.length_eraseIdx_of_lt (pickN_lt (p := p) hp)
    have Hl2 : Hid ((l.eraseIdx (pickN p l.length)).length < 1024) := by unfold Hid; omega
    have Hmd : Hid (m.d.length ≤ 1099511627776) := hd m (List.mem_of_getElem? hm)
    have Hdec : Hid (decide (0 < l.length) = true) := decide_eq_true hp
    clear h hd hm hl hel hp
    obtain ⟨mf, mt, md, msp⟩ := m
    rw [Hdec.out, HL.out]
    clear HL Hdec
    generalize l.eraseIdx (pickN p l.length) = l2 at *
    simp only at *
    go_enter Try.func12, Try.ntmps12
    go_wp2_with (fail)
    refine HT.out.mono ?_
    rintro e w1 ⟨B, c2, rfl, hB, H1, hs1⟩
    have z1 := At.new w1 59 #[.int .i64 mf, .int .i64 mt, .slice B md.length c2, .bool msp]
    have q1 := (Chg.refl [] w1).alloc (.cells #[.int .i64 mf, .int .i64 mt, .slice B md.length c2, .bool msp] 59)
    have HB := Lib.hid hB
    have H2 := Lib.hid (H1.quiet q1)
    have hs2 := q1.size
    clear H1 hB q1
    have u0 := z1.cell 0
    have u1 := z1.cell 1
    have u2 := z1.cell 2
    have u3 := z1.cell 3
    simp only [List.getElem?_toArray, List.getElem?_cons_zero, List.getElem?_cons_succ] at u0 u1 u2 u3
    go_wp2_with (fail)
    have HR : Rd (w1.alloc (.cells #[.int .i64 mf, .int .i64 mt, .slice B md.length c2, .bool msp] 59)) 1 B md.length (cB md) := by
      obtain ⟨A, c, ms, e, H⟩ := H2.out
      exact Rd.of_own (H.get 1 rfl)
    refine (lays_all H2.out Hl2.out mf mt md B _ c2 msp rfl HR Hmd.out HB.out).mono ?_
    rintro e w3 ⟨rfl, H3, hs3⟩
    go_wp2_with (fail)
    go_ret
    refine ⟨rfl, ?_, by omega⟩
    obtain ⟨A, c, ms, e, H⟩ := H3
    exact ⟨A, c, ms, e, (H.front 1 rfl).tail⟩
  · obtain rfl : l = [] := by cases l with
      | nil => rfl
      | cons a l => simp at hp
    have HT := Lib.hid (fun w h => takes_none (w0 := w0) (w := w) (gn := gn) (rs := rs) h p)
    have HH := Lib.hid h
    clear h hl hd hp
    go_enter Try.func12, Try.ntmps12
    go_wp2_with (fail)
    refine (HT.out _ HH.out).mono ?_
    rintro e w1 ⟨rfl, hc⟩
    go_wp2_with (fail)
    go_ret
    have hc2 : Chg [] w (w1.alloc (.cells #[.int .i64 0, .int .i64 0, .slice none 0 0, .bool false] 59)) := hc.alloc _
    exact ⟨rfl, HH.out.quiet hc2, hc2.size⟩
theorem late_nil (w : World) (p : Int) : Calls Try.prog 12 #[.pointer none, .int .i64 p] w fun e w' => e = .returned (.bool false) ∧ Chg [] w w' := by
  have HT := Lib.hid (fun w => takes_nil w p)
  go_enter Try.func12, Try.ntmps12
  go_wp2_with (fail)
  refine (HT.out _).mono ?_
  rintro e w1 ⟨rfl, hc⟩
  go_wp2_with (fail)
  go_ret
  exact ⟨rfl, hc.alloc _⟩
theorem twice_nil (w : World) (p : Int) : Calls Try.prog 17 #[.pointer none, .int .i64 p] w fun e w' => e = .returned (.bool false) ∧ Chg [] w w' := by
  have HT := Lib.hid (fun w => picked_nil w p)
  go_enter Try.func17, Try.ntmps17
  go_wp2_with (fail)
  refine (HT.out _).mono ?_
  rintro e w1 ⟨rfl, hc⟩
  go_wp2_with (fail)
  go_ret
  exact ⟨rfl, Chg.refl _ _⟩
end
end Go.Proofs.Ytbgdcplbekoemaa
