
/-
  NetPlays: the walk of the law.
-/
import Derived.Test.YtbgdcplbekoemaaNetDs1
import Derived.Test.YtbgdcplbekoemaaNetN
import Derived.Test.YtbgdcplbekoemaaNetK
import Derived.Deep.CutBlock
namespace Go.Proofs.Ytbgdcplbekoemaa
open Go.RowKit
set_option linter.unusedVariables false
set_option linter.unusedSimpArgs false
theorem u8_of2 {a : Int} (h : (Lit.int .u8 a).wf = true) : ∃ b : UInt8, a = (b.toNat : Int) := by
  have h2 := bounds_u8 h
  exact ⟨UInt8.ofNat a.toNat, by rw [UInt8.toNat_ofNat', Nat.mod_eq_of_lt (by omega)]; omega⟩
section
variable {w0 w w' : World} {gn gx : Nat} {l l2 : List MV} {rs : List Res}
theorem does_any (h : Tw w0 w gn gx l l rs) (hI : NInv l) (k n m : Int) (b : UInt8) (A : Option Addr) (c : Nat) (ls : List MsgV) (hM : MsIn w0 A ls) (hD : ∀ x ∈ ls, x.d.length ≤ 8000) (hn5 : ls.length ≤ 1600) :
    Calls Try.prog 21 #[.pointer (some ⟨gn, 0, none⟩), .pointer (some ⟨gx, 0, none⟩), .agg #[.int .i64 k, .int .i64 n, .int .i64 m, .int .u8 (b.toNat : Int), .slice A ls.length c]] w fun e w' => e = .returned (.bool true) ∧ (∃ l', NInv l' ∧ Tw w0 w' gn gx l' l' rs) ∧ w.heap.size ≤ w'.heap.size := by
  by_cases h1 : k = 1
  · subst h1
    refine (does1 h hI n m b A c ls hM hD hn5).mono ?_
    rintro e w' ⟨rfl, h1, h2⟩
    exact ⟨rfl, ⟨_, hI.send hD, h1⟩, h2⟩
  · by_cases h2 : k = 2
    · subst h2
      refine (does2 h hI n m b A c ls).mono ?_
      rintro e w' ⟨rfl, h1, h2⟩
      exact ⟨rfl, ⟨_, hI.erase _, h1⟩, h2⟩
    · by_cases h3 : k = 3
      · subst h3
        refine (does3 h hI n m b A c ls).mono ?_
        rintro e w' ⟨rfl, h1, h2⟩
        exact ⟨rfl, ⟨_, hI.twice _, h1⟩, h2⟩
      · by_cases h4 : k = 4
        · subst h4
          refine (does4 h hI n m b A c ls).mono ?_
          rintro e w' ⟨rfl, h1, h2⟩
          exact ⟨rfl, ⟨_, hI.late _, h1⟩, h2⟩
        · by_cases h5 : k = 5
          · subst h5
            refine (does5 h hI n m b A c ls).mono ?_
            rintro e w' ⟨rfl, h1, h2⟩
            exact ⟨rfl, ⟨_, hI.spoil _ _ _, h1⟩, h2⟩
          · by_cases h6 : k = 6
            · subst h6
              refine (does6 h hI n m b A c ls).mono ?_
              rintro e w' ⟨rfl, h1, h2⟩
              exact ⟨rfl, ⟨_, hI.drop _, h1⟩, h2⟩
            · refine (does0 h k n m b A c ls h1 h2 h3 h4 h5 h6).mono ?_
              rintro e w' ⟨rfl, h1, h2⟩
              exact ⟨rfl, ⟨_, hI, h1⟩, h2⟩
theorem Tw.start {gx : Nat} (h : NetA w0 w gn [] []) (hg : gx = w.heap.size) : Tw w0 (w.alloc (.cells #[.slice none 0 0] 50)) gn gx [] [] [] := by
  obtain ⟨A, c, ms, e, H⟩ := h
  subst hg
  have H2 := H.new ((Chg.refl [] w).alloc (.cells #[.slice none 0 0] 50)) (rRef w.heap.size none 0 []) (fun b hb => by
    have hb2 : b = w.heap.size := by simpa [rRef, netF, blk, datF] using hb
    subst hb2; simp) (by simp [rRef, netF, blk, datF]) ⟨At.new w 50 #[.slice none 0 0], own_none _ _ _ _, by simp⟩ (rRef_stable _ _ _ _ _)
  exact ⟨A, c, ms, none, 0, [], e, rfl, H2.perm (List.Perm.swap _ _ _)⟩
theorem Tw.len1 (h : Tw w0 w gn gx l l2 rs) : Calls Try.prog 15 #[.pointer (some ⟨gn, 0, none⟩)] w fun e w' => e = .returned (.int .i64 l.length) ∧ w' = w := by
  obtain ⟨A, c, ms, e, H⟩ := h.net
  exact len_all H
theorem Tw.len2 (h : Tw w0 w gn gx l l2 rs) : Calls Try.prog 22 #[.pointer (some ⟨gx, 0, none⟩)] w fun e w' => e = .returned (.int .i64 l2.length) ∧ w' = w := by
  obtain ⟨A, c, ms, e, H⟩ := h.ref
  exact rlen_all H
theorem Tw.none1 (h : Tw w0 w gn gx [] l2 rs) (p : Int) : Calls Try.prog 13 #[.pointer (some ⟨gn, 0, none⟩), .int .i64 p] w fun e w' => e = .returned (.tuple #[.agg #[.int .i64 0, .int .i64 0, .slice none 0 0], .bool false]) ∧ Chg [] w w' := by
  obtain ⟨A, c, ms, e, H⟩ := h.net
  exact give_none H p
theorem does_give (h : Tw w0 w gn gx l l rs) (hI : NInv l) :
    Calls Try.prog 21 #[.pointer (some ⟨gn, 0, none⟩), .pointer (some ⟨gx, 0, none⟩), .agg #[.int .i64 2, .int .i64 0, .int .i64 0, .int .u8 0, .slice none 0 0]] w fun e w' => e = .returned (.bool true) ∧ Tw w0 w' gn gx (l.eraseIdx (pickN 0 l.length)) (l.eraseIdx (pickN 0 l.length)) rs ∧ w.heap.size ≤ w'.heap.size :=
  does2 h hI 0 0 0 none 0 []
end
set_option maxRecDepth 100000 in
set_option maxHeartbeats 12800000 in
theorem netPlays_law (w : World) (x : Sl NAct) (hx : Rd w 5 x.A x.ls.length (x.ls.flatMap NAct.cells) ∧ x.ls.length ≤ x.c ∧ x.c ≤ maxLen ∧ x.ls.length * 56 ≤ 140737488351232 ∧ ∀ a ∈ x.ls, a.In w) :
    Calls Try.prog 7 #[.slice x.A x.ls.length x.c] w fun e w' => e = .returned (.bool true) ∧ Chg [] w w' := by
  obtain ⟨A, c, ls⟩ := x
  obtain ⟨hr, _, _, hl, he⟩ := hx
  simp only at hr hl he ⊢
  have HR : Hid (Rd w 5 A ls.length (cNA ls)) := hr
  have HE := Lib.hid he
  have hlen : ls.length ≤ 140737488351232 := by omega
  have HV := Lib.hid (heavyN_any w A _ c ls rfl hr hlen he)
  clear hr he
  go_enter Try.func7, Try.ntmps7
  go_wp2_with (fail)
  refine HV.out.mono ?_
  rintro e w1 ⟨hv, rfl, rfl, hb⟩
  cases hv
  · have HB := Lib.hid (hb rfl)
    clear hb HV
    go_wp2_with (fail)
    refine (new_all (All.start w1)).mono ?_
    rintro e w2 ⟨gn, rfl, hN, _, _⟩
    have HT := Lib.hid (Tw.start (gx := w2.heap.size) hN rfl)
    clear hN
    go_wp2_with (fail)
    generalize w2.alloc (.cells #[.slice none 0 0] 50) = w3 at *
    generalize w2.heap.size = gx at *
    go_loopw [5] (fun i wr => ∃ (k : Nat) (l : List MV), k ≤ ls.length ∧ k ≤ 150 ∧ i = .int .i64 k ∧ Hid (NInv l) ∧ Hid (Tw w1 wr gn gx l l [])) (fun i _ => ls.length - (intOf i).toNat)
    case atStart => exact ⟨0, [], Nat.zero_le _, Nat.zero_le _, rfl, NInv.nil, HT⟩
    case round =>
      clear HT
      obtain ⟨k, l, hk, hk2, rfl, HI, HT⟩ := hrel
      by_cases hlt : k < ls.length ∧ k < 150
      · obtain ⟨hlt, h150⟩ := hlt
        have hki : (k : Int) < (ls.length : Int) := by omega
        have hk3 : (k : Int) < 150 := by omega
        obtain ⟨ad, rfl, had, a0, aj⟩ := (HR.out.keep0 HT.out.chg).getNA hlt
        have a1 := aj 1 _ (by omega) rfl
        have a2 := aj 2 _ (by omega) rfl
        have a3 := aj 3 _ (by omega) rfl
        have a4 := aj 4 _ (by omega) rfl
        have hIn := HE.out _ (List.getElem_mem hlt)
        have hB := HB.out k hlt h150
        clear aj
        generalize ls[k] = x at *
        obtain ⟨xk, xn, xm, xb, xA, xls, xc⟩ := x
        simp only at a0 a1 a2 a3 a4 hB
        obtain ⟨b, hb⟩ := u8_of2 hIn.b0
        simp only at hb
        subst hb
        have HM : Hid (MsIn w1 xA xls) := ⟨hIn.rd, fun z hz => ⟨(hIn.each z hz).rd, (hIn.each z hz).nil, Nat.le_trans (hB.2 z hz) (by omega)⟩⟩
        have HD := Lib.hid (does_any HT.out HI.out xk xn xm b xA xc xls HM.out hB.2 (by omega))
        clear hIn hB HT HI HM
        go_wp2_with (fail)
        refine HD.out.mono ?_
        rintro e w4 ⟨rfl, ⟨l', hI', hT'⟩, _⟩
        have HT := Lib.hid hT'
        have HI := Lib.hid hI'
        clear hT' hI' HD a0 a1 a2 a3 a4
        go_wp2_with (fail)
        refine HT.out.len1.mono ?_
        rintro e w5 ⟨rfl, hw5⟩
        rw [← hw5] at HT
        clear hw5
        go_wp2_with (fail)
        refine HT.out.len2.mono ?_
        rintro e w6 ⟨rfl, hw6⟩
        rw [← hw6] at HT
        clear hw6
        go_wp2_with (fail)
        go_roundw
        case rel => exact ⟨k + 1, l', by omega, by omega, by go_num, HI, HT⟩
        case measure => simp [intOf]; omega
      · have HREST : Hid (Tw w1 wr gn gx l l [] ∧ NInv l) := ⟨HT.out, HI.out⟩
        have hcond : ¬ ((k : Int) < (ls.length : Int)) ∨ ((k : Int) < (ls.length : Int) ∧ ¬ (k : Int) < 150) := by omega
        clear hlt HT HI
        rcases hcond with hki | ⟨hki, hk3⟩
        all_goals
          go_wp2_with (fail)
          go_loopg [] l.length (fun g wx => ∃ l : List MV, g = l.length ∧ Hid (NInv l) ∧ Hid (Tw w1 wx gn gx l l []))
          case atStart => exact ⟨l, rfl, HREST.out.2, HREST.out.1⟩
          case round =>
            clear HREST l
            obtain ⟨l, hg, HI, HT⟩ := hrel
            have HG := Lib.hid hg
            clear hg
            go_wp2_with (fail)
            refine HT.out.len2.mono ?_
            rintro e w5 ⟨rfl, hw5⟩
            rw [← hw5] at HT
            clear hw5
            by_cases h0 : l.length = 0
            · have hl0 : l = [] := List.eq_nil_of_length_eq_zero h0
              subst hl0
              go_wp2_with (fail)
              refine (HT.out.none1 0).mono ?_
              rintro e w6 ⟨rfl, hc6⟩
              have q6 := (Chg.refl [] w6).alloc (.cells #[.int .i64 0, .int .i64 0, .slice none 0 0] 35)
              have HT6 := Lib.hid ((HT.out.quiet hc6).quiet q6)
              clear hc6 q6 HT
              go_wp2_with (fail)
              generalize w6.alloc (.cells #[.int .i64 0, .int .i64 0, .slice none 0 0] 35) = w7 at *
              refine HT6.out.len1.mono ?_
              rintro e w8 ⟨rfl, hw8⟩
              rw [← hw8] at HT6
              clear hw8
              go_wp2_with (fail)
              refine (knownN_any w8).mono ?_
              rintro e w9 ⟨rfl, hc9⟩
              go_wp2_with (fail)
              go_ret
              exact ⟨rfl, HT6.out.chg.trans hc9 (by simp)⟩
            · have hpos : decide ((0 : Int) < (l.length : Int)) = true := decide_eq_true (by omega)
              have HD := Lib.hid (does_give HT.out HI.out)
              have HLE : Hid ((l.eraseIdx (pickN 0 l.length)).length < l.length) := by
                unfold Hid
                rw [List.length_eraseIdx, if_pos (pickN_lt (by omega))]; omega
              have HI2 := Lib.hid (HI.out.erase (pickN 0 l.length))
              generalize l.eraseIdx (pickN 0 l.length) = l3 at *
              clear HT HI
              go_wp2_with (fail)
              refine HD.out.mono ?_
              rintro e w6 ⟨rfl, hT, _⟩
              have HT6 := Lib.hid hT
              clear hT HD
              go_wp2_with (fail)
              go_roundg l3.length
              case rel => exact ⟨l3, rfl, HI2, HT6⟩
              case measure => have := HLE.out; have := HG.out; omega
  · clear HV hb
    go_wp2_with (fail)
    go_ret
    exact ⟨rfl, Chg.refl _ _⟩
end Go.Proofs.Ytbgdcplbekoemaa
