
/-
  net: the law's 'does': giving.
-/
import Derived.Test.YtbgdcplbekoemaaNetDo
namespace Go.Proofs.Ytbgdcplbekoemaa
open Go.RowKit
set_option linter.unusedVariables false
set_option linter.unusedSimpArgs false
section
variable {w0 w w' : World} {gn gx : Nat} {l l2 : List MV} {rs : List Res}
theorem Tw.front (h : Tw w0 w gn gx l l2 rs) (i : Nat) {r : Res} (hi : rs[i]? = some r) : Tw w0 w gn gx l l2 (r :: rs.eraseIdx i) := h.beside fun ts H => H.perm ((perm_front rs i r hi).append_right ts)
set_option maxRecDepth 100000 in
set_option maxHeartbeats 3200000 in
theorem does2 (h : Tw w0 w gn gx l l rs) (hI : NInv l) (n m : Int) (b : UInt8) (A : Option Addr) (c : Nat) (ls : List MsgV) :
    Calls Try.prog 21 #[.pointer (some ⟨gn, 0, none⟩), .pointer (some ⟨gx, 0, none⟩), .agg #[.int .i64 2, .int .i64 n, .int .i64 m, .int .u8 (b.toNat : Int), .slice A ls.length c]] w fun e w' => e = .returned (.bool true) ∧ Tw w0 w' gn gx (l.eraseIdx (pickN n l.length)) (l.eraseIdx (pickN n l.length)) rs ∧ w.heap.size ≤ w'.heap.size := by
  have hsz0 : w.heap.size ≤ (w.alloc (.cells #[.int .i64 2, .int .i64 n, .int .i64 m, .int .u8 (b.toNat : Int), .slice A ls.length c] 26)).heap.size := by simp
  have HB := Lib.hid (h.newAt 26 #[.int .i64 2, .int .i64 n, .int .i64 m, .int .u8 (b.toNat : Int), .slice A ls.length c] rfl)
  have HI := Lib.hid hI
  clear h hI
  by_cases hp : 0 < l.length
  · obtain ⟨mg, hm⟩ : ∃ m, l[pickN n l.length]? = some m := ⟨_, List.getElem?_eq_getElem (pickN_lt hp)⟩
    have G1 := Lib.hid (fun w l2 rs (h : Tw w0 w gn gx l l2 rs) => h.give HI.out.len hp n hm)
    have G2 := Lib.hid (fun w l1 rs (h : Tw w0 w gn gx l1 l rs) => h.rgive HI.out.len hp n hm)
    have hdl : mg.d.length ≤ 8000 := HI.out.d mg (List.mem_of_getElem? hm)
    obtain ⟨mf, mt, md, msp⟩ := mg
    simp only at G1 G2 hdl
    clear hm hp
    generalize l.eraseIdx (pickN n l.length) = l' at *
    go_enter Try.func21, Try.ntmps21
    have x0 := (HB.out.get 0 rfl).cell 0
    simp only [List.getElem?_toArray, List.getElem?_cons_zero] at x0
    go_wp2_with (fail)
    generalize w.alloc (.cells #[.int .i64 2, .int .i64 n, .int .i64 m, .int .u8 (b.toNat : Int), .slice A ls.length c] 26) = ws at *
    generalize hgb : w.heap.size = gb at *
    clear x0
    have x1 := (HB.out.get 0 rfl).cell 1
    simp only [List.getElem?_toArray, List.getElem?_cons_zero, List.getElem?_cons_succ] at x1
    go_wp2_with (fail)
    refine (G1.out _ _ _ HB.out).mono ?_
    rintro e w1 ⟨B, c2, rfl, hT, hs⟩
    have HT1 := Lib.hid (hT.newAt 35 #[.int .i64 mf, .int .i64 mt, .slice B md.length c2] rfl)
    have HS1 : Hid (gb ≤ w1.heap.size) := Nat.le_trans hsz0 hs
    clear hT hs x1 HB
    have x1 := (HT1.out.get 2 rfl).cell 1
    simp only [List.getElem?_toArray, List.getElem?_cons_zero, List.getElem?_cons_succ] at x1
    go_wp2_with (fail)
    generalize hw2 : w1.alloc (.cells #[.int .i64 mf, .int .i64 mt, .slice B md.length c2] 35) = w2 at *
    have HS2 : Hid (gb ≤ w2.heap.size) := by unfold Hid; rw [← hw2]; have := HS1.out; simp; omega
    clear hw2
    generalize w1.heap.size = g12 at *
    refine (G2.out _ _ _ HT1.out).mono ?_
    rintro e w3 ⟨B', c3, rfl, hT, hs⟩
    have HT3 := Lib.hid (hT.newAt 35 #[.int .i64 mf, .int .i64 mt, .slice B' md.length c3] rfl)
    have HS3 : Hid (gb ≤ (w3.alloc (.cells #[.int .i64 mf, .int .i64 mt, .slice B' md.length c3] 35)).heap.size) := by unfold Hid; have := HS2.out; simp; omega
    clear hT hs x1 HT1
    have y0 := (HT3.out.get 0 rfl).cell 0
    have y1 := (HT3.out.get 0 rfl).cell 1
    have y2 := (HT3.out.get 0 rfl).cell 2
    have x0 := (HT3.out.get 2 rfl).cell 0
    have x1 := (HT3.out.get 2 rfl).cell 1
    have x2 := (HT3.out.get 2 rfl).cell 2
    simp only [List.getElem?_toArray, List.getElem?_cons_zero, List.getElem?_cons_succ] at x0 x1 x2 y0 y1 y2
    have HM := Lib.hid (message_any _ mf mt mf mt B B' md.length md.length c2 c3 md md rfl rfl (Rd.of_own (HT3.out.get 3 rfl)) (Rd.of_own (HT3.out.get 1 rfl)) (by omega))
    have hdd : decide (mf = mf ∧ mt = mt ∧ md = md) = true := by simp
    rw [hdd] at HM
    go_wp2_with (fail)
    refine HM.out.mono ?_
    rintro e w5 ⟨rfl, hc5⟩
    have HT5 := Lib.hid (HT3.out.quiet hc5)
    have HS5 : Hid (gb ≤ w5.heap.size) := Nat.le_trans HS3.out hc5.size
    clear x0 x1 x2 y0 y1 y2 HT3 hc5 HM
    have x2 := (HT5.out.get 2 rfl).cell 2
    simp only [List.getElem?_toArray, List.getElem?_cons_zero, List.getElem?_cons_succ] at x2
    go_wp2_with (fail)
    refine (spoil_any w5 0 B md.length c2 (cB md) (HT5.out.get 3 rfl) (by omega) (Nat.zero_le _)).mono ?_
    rintro e w6 ⟨rfl, hc6⟩
    have HT6 := Lib.hid ((HT5.out.front 3 rfl).ruin hc6)
    have HS6 : Hid (gb ≤ w6.heap.size) := Nat.le_trans HS5.out hc6.size
    clear x2 HT5 hc6
    go_wp2_with (fail)
    go_ret
    exact ⟨rfl, HT6.out.tail.tail.tail.tail, by rw [hgb]; exact HS6.out⟩
  · obtain rfl : l = [] := by cases l with
      | nil => rfl
      | cons a l => simp at hp
    go_enter Try.func21, Try.ntmps21
    have x0 := (HB.out.get 0 rfl).cell 0
    simp only [List.getElem?_toArray, List.getElem?_cons_zero] at x0
    go_wp2_with (fail)
    generalize w.alloc (.cells #[.int .i64 2, .int .i64 n, .int .i64 m, .int .u8 (b.toNat : Int), .slice A ls.length c] 26) = ws at *
    generalize hgb : w.heap.size = gb at *
    clear x0
    have x1 := (HB.out.get 0 rfl).cell 1
    simp only [List.getElem?_toArray, List.getElem?_cons_zero, List.getElem?_cons_succ] at x1
    go_wp2_with (fail)
    obtain ⟨A1, k1, ms1, e1, H1⟩ := HB.out.net
    refine (give_none H1 n).mono ?_
    rintro e w1 ⟨rfl, hc1⟩
    have HT1 := Lib.hid ((HB.out.quiet hc1).newAt 35 #[.int .i64 0, .int .i64 0, .slice none 0 0] rfl)
    have HS1 : Hid (gb ≤ w1.heap.size) := Nat.le_trans hsz0 hc1.size
    clear H1 e1 hc1 x1 HB
    have x1 := (HT1.out.get 1 rfl).cell 1
    simp only [List.getElem?_toArray, List.getElem?_cons_zero, List.getElem?_cons_succ] at x1
    go_wp2_with (fail)
    generalize hw2 : w1.alloc (.cells #[.int .i64 0, .int .i64 0, .slice none 0 0] 35) = w2 at *
    have HS2 : Hid (gb ≤ w2.heap.size) := by unfold Hid; rw [← hw2]; have := HS1.out; simp; omega
    clear hw2
    generalize w1.heap.size = g12 at *
    obtain ⟨A1, k1, ms1, e1, H1⟩ := HT1.out.ref
    refine (rgive_none H1 n).mono ?_
    rintro e w3 ⟨rfl, hc3⟩
    have HT3 := Lib.hid ((HT1.out.quiet hc3).newAt 35 #[.int .i64 0, .int .i64 0, .slice none 0 0] rfl)
    have HS3 : Hid (gb ≤ (w3.alloc (.cells #[.int .i64 0, .int .i64 0, .slice none 0 0] 35)).heap.size) := by unfold Hid; have := HS2.out; have := hc3.size; simp; omega
    clear H1 e1 hc3 x1 HT1
    have HM := Lib.hid (message_any (w3.alloc (.cells #[.int .i64 0, .int .i64 0, .slice none 0 0] 35)) 0 0 0 0 none none 0 0 0 0 [] [] rfl rfl (Rd.nil _ _ _) (Rd.nil _ _ _) (by simp))
    have y0 := (HT3.out.get 0 rfl).cell 0
    have y1 := (HT3.out.get 0 rfl).cell 1
    have y2 := (HT3.out.get 0 rfl).cell 2
    have x0 := (HT3.out.get 1 rfl).cell 0
    have x1 := (HT3.out.get 1 rfl).cell 1
    have x2 := (HT3.out.get 1 rfl).cell 2
    simp only [List.getElem?_toArray, List.getElem?_cons_zero, List.getElem?_cons_succ] at x0 x1 x2 y0 y1 y2
    have hdd : decide ((0 : Int) = 0 ∧ (0 : Int) = 0 ∧ ([] : List UInt8) = []) = true := by decide
    rw [hdd] at HM
    go_wp2_with (fail)
    refine HM.out.mono ?_
    rintro e w5 ⟨rfl, hc5⟩
    have HT5 := Lib.hid (HT3.out.quiet hc5)
    have HS5 : Hid (gb ≤ w5.heap.size) := Nat.le_trans HS3.out hc5.size
    clear x0 x1 x2 y0 y1 y2 HT3 hc5
    have x2 := (HT5.out.get 1 rfl).cell 2
    simp only [List.getElem?_toArray, List.getElem?_cons_zero, List.getElem?_cons_succ] at x2
    go_wp2_with (fail)
    refine (spoil_any w5 0 none 0 0 [] (own_none _ _ _ _) (by omega) (Nat.zero_le _)).mono ?_
    rintro e w6 ⟨rfl, hc6⟩
    have HT6 := Lib.hid (HT5.out.quiet (hc6.mono (by simp [blk])))
    have HS6 : Hid (gb ≤ w6.heap.size) := Nat.le_trans HS5.out hc6.size
    clear x2 HT5 hc6
    go_wp2_with (fail)
    go_ret
    exact ⟨rfl, by simpa using HT6.out.tail.tail.tail, by rw [hgb]; exact HS6.out⟩
end
end Go.Proofs.Ytbgdcplbekoemaa
