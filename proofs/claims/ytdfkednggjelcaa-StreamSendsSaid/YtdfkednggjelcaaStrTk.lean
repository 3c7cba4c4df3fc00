
/-
  StreamTakes: the walk of the law.
-/
import Derived.Test.YtdfkednggjelcaaStrR
import Derived.Test.YtdfkednggjelcaaStrK
import Derived.OpenShut
import Derived.Deep.RegionWith
namespace Go.Proofs.Ytdfkednggjelcaa
open Go.RowKit
set_option linter.unusedVariables false

def cRR (l : List (Sl RcV)) : List Value := l.map fun s => .slice s.A s.ls.length s.c
theorem cRR_eq (l : List (Sl RcV)) : (l.flatMap fun r => [Value.slice r.A r.ls.length r.c]) = cRR l := by
  induction l with
  | nil => rfl
  | cons a l ih => simp [cRR] at ih ⊢; exact ih
theorem cRR_get {l : List (Sl RcV)} {k : Nat} (hk : k < l.length) : (cRR l)[k]? = some (.slice l[k].A l[k].ls.length l[k].c) := by simp [cRR, hk]
def cII (l : List Int) : List Value := l.map fun z => .int .i64 z
theorem cII_eq (l : List Int) : (l.flatMap fun z => [Value.int .i64 z]) = cII l := by
  induction l with
  | nil => rfl
  | cons a l ih => simp [cII] at ih ⊢; exact ih
theorem MsgsNew.of_le {w0 w1 : World} {A : Option Addr} {ms : List MgV} (h : MsgsNew w1 A ms) (hs : w0.heap.size ≤ w1.heap.size) : MsgsNew w0 A ms :=
  ⟨fun k hk => Nat.le_trans hs (h.1 k hk), fun x hx h0 k hk => Nat.le_trans hs (h.2.1 x hx h0 k hk), h.2.2⟩
theorem takeN_len (o ap : Int) : ∀ (l : List Rc) (n : Nat), (takeN o ap n l).length ≤ l.length := by
  intro l
  induction l with
  | nil => intro n; simp [takeN]
  | cons r l ih =>
    intro n
    rw [takeN]
    split
    · have := ih (n + 1); simp only [List.length_cons]; omega
    · split
      · simp
      · have := ih n; simp only [List.length_cons]; omega
theorem doneI_ok {i : ISt} (h : i.Ok) (s : Int) : (doneI i s).Ok := by
  obtain ⟨h1, h2, h3, h4, h5, h6⟩ := h
  exact ⟨h1, h2, h3, h4, by show 0 ≤ max i.k _; omega, by show max i.k _ ≤ _; omega⟩
theorem ackB_len {o q : Int} (h0 : 0 ≤ o) (h5 : o < 5) (q0 : 0 ≤ q) (q1 : q ≤ 1099511627776) : (ackB o q).length ≤ 1000000 := by
  have h := bodyW_len (isW_ack2 h0 h5 q0 q1)
  unfold ackB
  rw [encF_len]
  omega

set_option maxRecDepth 100000 in
set_option maxHeartbeats 6400000 in
theorem streamTakes_law (w : World) (a : Int) (ha : (Lit.int .i64 a).wf = true) (o : Int) (ho : (Lit.int .i64 o).wf = true) (q : Int) (hq : (Lit.int .i64 q).wf = true)
    (x : Sl (Sl RcV)) (hx : Rd w 1 x.A x.ls.length (x.ls.flatMap fun r => [.slice r.A r.ls.length r.c]) ∧ x.ls.length ≤ x.c ∧ x.c ≤ maxLen ∧ x.ls.length * 24 ≤ 140737488351232 ∧ ∀ s ∈ x.ls, (Rd w 9 s.A s.ls.length (s.ls.flatMap RcV.cells) ∧ s.ls.length ≤ s.c ∧ s.c ≤ maxLen ∧ s.ls.length * 96 ≤ 140737488351232 ∧ ∀ r ∈ s.ls, r.In w))
    (y : Sl Int) (hy : Rd w 1 y.A y.ls.length (y.ls.flatMap fun z => [.int .i64 z]) ∧ y.ls.length ≤ y.c ∧ y.c ≤ maxLen ∧ y.ls.length * 8 ≤ 140737488351232 ∧ ∀ z ∈ y.ls, (Lit.int .i64 z).wf = true) :
    Calls Try.prog 3 #[.int .i64 a, .int .i64 o, .int .i64 q, .slice x.A x.ls.length x.c, .slice y.A y.ls.length y.c] w fun e w' => e = .returned (.bool true) ∧ Chg [] w w' := by
  obtain ⟨i1, hi1, hy0, hy1, hy2⟩ := info_parts info_rec
  obtain ⟨A, c, ls⟩ := x
  obtain ⟨rx, hxc, _, hxl, hxs⟩ := hx
  obtain ⟨B, d, ds⟩ := y
  obtain ⟨ry, hyc, _, hyl, _⟩ := hy
  simp only at rx hxc hxl hxs ry hyc hyl ⊢
  rw [cRR_eq] at rx
  rw [cII_eq] at ry
  have RX := Lib.hid rx
  have RY := Lib.hid ry
  have HXS : Hid (∀ s ∈ ls, Rd w 9 s.A s.ls.length (cRc s.ls) ∧ s.ls.length ≤ 140737488351232 ∧ ∀ r ∈ s.ls, Rd w 1 r.A r.r.val.length (cB r.r.val) ∧ r.r.key.length ≤ 140737488351232 ∧ r.r.val.length ≤ 140737488351232) := fun s hs => by
    obtain ⟨h1, h2, h3, h4, h5⟩ := hxs s hs
    exact ⟨h1, by omega, fun r hr => ⟨(h5 r hr).rd, (h5 r hr).kl, (h5 r hr).vl⟩⟩
  clear rx ry hxs ha ho hq
  go_enter Try.func3, Try.ntmps3
  go_wp2_with (fail)
  go_loopw [12, 11] (fun i m wr => ∃ k x : Nat, k ≤ ls.length ∧ k ≤ 40 ∧ i = .int .i64 k ∧ m = .int .i64 x ∧ x ≤ 400 ∧ Hid (∀ j (h : j < ls.length), j < k → ls[j].ls.length ≤ 400) ∧ Hid (Chg [] w wr)) (fun i _ _ => ls.length - (intOf i).toNat)
  case atStart => exact ⟨0, 0, Nat.zero_le _, by omega, rfl, rfl, by omega, (by intro j h hj; omega), Chg.refl _ _⟩
  case round =>
    obtain ⟨k, x, hk, hk40, rfl, rfl, hx, HS, hch⟩ := hrel
    by_cases hlt : k < ls.length ∧ k < 40
    · obtain ⟨hlt, hk4⟩ := hlt
      obtain ⟨ad, u, rfl, had, hu, hc⟩ := (RX.out.keep0 hch.out).get hlt
      rw [cRR_get hlt] at hu
      obtain ⟨r9, r8, r7⟩ := HXS.out _ (List.getElem_mem hlt)
      have HT : Hid (ls[k].ls.length ≤ 400 → ∀ j (h : j < ls.length), j < k + 1 → ls[j].ls.length ≤ 400) := fun h1 j h hj => by
        by_cases e : j = k
        · subst e; exact h1
        · exact HS.out j h (by omega)
      generalize ls[k] = s at *
      obtain ⟨sA, sc, sl⟩ := s
      obtain rfl : Value.slice sA sl.length sc = u := by simpa using hu
      simp only at r9 r8 r7 HT hc
      clear hu HS
      have R9 := Lib.hid r9
      have R7 := Lib.hid r7
      clear r9 r7
      have hki : (k : Int) < (ls.length : Int) := by omega
      have hk4i : (k : Int) < 40 := by omega
      go_wp2_with (fail)
      refine (heavyL_any wr sA _ sc sl rfl (R9.out.keep0 hch.out) r8 (fun r hr => ⟨(R7.out r hr).2.1, (R7.out r hr).2.2⟩)).mono ?_
      rintro e w1 ⟨hv, rfl, hlight, hch1⟩
      have hc1 : Hid (Chg [] w w1) := hch.out.trans hch1 (by simp)
      have hcw := (hch1.cell (p := ad.add k) (by rw [add_block]; exact had) (by simp)).trans hc
      clear hch1 hch hc
      cases hv
      rotate_left
      · go_wp2_with (go_at_call 11; (with_reducible refine (knownL_any _).mono ?_); rintro e w9 ⟨rfl, hch9⟩)
        go_ret
        exact ⟨rfl, hc1.out.trans hch9 (by simp)⟩
      have hl400 := hlight rfl
      have hsl : sl.length ≤ 400 := by omega
      clear hlight hl400
      by_cases h4 : 400 < x + sl.length
      · have h4b : decide ((400 : Int) < (x : Int) + (sl.length : Int)) = true := decide_eq_true (by omega)
        go_wp2_with (go_at_call 11; (with_reducible refine (knownL_any _).mono ?_); rintro e w9 ⟨rfl, hch9⟩)
        go_ret
        exact ⟨rfl, hc1.out.trans hch9 (by simp)⟩
      · have h4b : decide ((400 : Int) < (x : Int) + (sl.length : Int)) = false := decide_eq_false (by omega)
        have HT2 := Lib.hid (HT.out hsl)
        clear HT
        go_wp2_with (fail)
        go_roundw
        case rel => exact ⟨k + 1, x + sl.length, by omega, by omega, by go_num, by go_num, by omega, HT2.out, hc1⟩
        case measure => simp [intOf]; omega
    · have HS4 : Hid (∀ j (h : j < ls.length), j < 40 → ls[j].ls.length ≤ 400) := fun j h hj => HS.out j h (by omega)
      clear HS
      have hstop : Hid (decide ((k : Int) < (ls.length : Int)) = false ∨ decide ((k : Int) < 40) = false) := by
        by_cases h1 : k < ls.length
        · exact .inr (decide_eq_false (by omega))
        · exact .inl (decide_eq_false (by omega))
      have hrest : ∀ (wr : World), Hid (Chg [] w wr) → True := fun _ _ => trivial
      clear hrest
      by_cases h1 : k < ls.length
      · have h2 : ¬ (k : Int) < 40 := by omega
        have h1i : (k : Int) < (ls.length : Int) := by omega
        clear hstop
        go_wp2_with (fail)
        obtain ⟨s, hs⟩ : ∃ s, Hid (isWayS a o q = s) := ⟨_, rfl⟩
        cases s
        · refine (newIn_no _ _ _ _ hs.out).mono ?_
          rintro e w1 ⟨rfl, rfl⟩
          go_wp2_with (fail)
          refine (refNewIn_no _ _ _ _ hs.out).mono ?_
          rintro e w1 ⟨rfl, rfl⟩
          go_wp2_with (go_at_call 11; (with_reducible refine (knownL_any _).mono ?_); rintro e w9 ⟨rfl, hch9⟩)
          go_ret
          exact ⟨rfl, hch.out.trans hch9 (by simp)⟩
        obtain ⟨a0, a5, o0, o5, _, q0, q1⟩ := isWayS_iff.1 hs.out
        refine (newIn_yes _ _ _ _ hs.out).mono ?_
        rintro e w1 ⟨gi, rfl, hgi, hI1, hch1⟩
        have hgi1 := hI1.lt
        go_wp2_with (fail)
        refine (refNewIn_yes _ _ _ _ hs.out).mono ?_
        rintro e w2 ⟨gx, rfl, hgx, hX2, hch2⟩
        have hI2 := hI1.keep hch2 (by simp)
        have hc2 : Hid (Chg [] w w2) := (hch.out.trans hch1 (by simp)).trans hch2 (by simp)
        have hsw := hch.out.size
        have hgiw : w.heap.size ≤ gi := by omega
        have hgxw : w.heap.size ≤ gx := by have := hch1.size; omega
        have hgne : gi < gx := by omega
        clear hI1 hch1 hch2 hch hgi hgx hgi1
        go_wp2_with (fail)
        go_loopw [17] (fun i wr => ∃ (k : Nat) (ap : Int), k ≤ ls.length ∧ k ≤ 40 ∧ i = .int .i64 k ∧ 0 ≤ ap ∧ ap ≤ 1099511627776 ∧ Hid (At wr gi 84 (ISt.cells ⟨a, o, ap⟩)) ∧ Hid (At wr gx 37 (ISt.cells ⟨a, o, ap⟩)) ∧ Hid (Chg [] w wr)) (fun i _ => ls.length - (intOf i).toNat)
        case atStart => exact ⟨0, q, Nat.zero_le _, by omega, rfl, q0, q1, hI2, hX2, hc2⟩
        case round =>
          clear hI2 hX2 hc2
          obtain ⟨k2, ap, hk2, hk42, rfl, ap0, ap1, HI, HX, HC2⟩ := hrel
          have HOK : Hid (ISt.Ok ⟨a, o, ap⟩) := ⟨a0, a5, o0, o5, ap0, ap1⟩
          by_cases hlt2 : k2 < ls.length ∧ k2 < 40
          · obtain ⟨hlt2, hk40b⟩ := hlt2
            obtain ⟨ad, u, rfl, had, hu, hc⟩ := (RX.out.keep0 HC2.out).get hlt2
            rw [cRR_get hlt2] at hu
            obtain ⟨r9, r8, r7⟩ := HXS.out _ (List.getElem_mem hlt2)
            have hs400 := HS4.out k2 hlt2 hk40b
            generalize ls[k2] = s at *
            obtain ⟨sA, sc, sl⟩ := s
            obtain rfl : Value.slice sA sl.length sc = u := by simpa using hu
            simp only at r9 r8 r7 hc hs400
            clear hu
            have R9 := Lib.hid r9
            have R7 := Lib.hid r7
            clear r9 r7
            have hki2 : (k2 : Int) < (ls.length : Int) := by omega
            have hk4i2 : (k2 : Int) < 40 := by omega
            have HAD : Hid (∀ w', Chg [] wr w' → w'.cell? (ad.add k2) = some (.slice sA sl.length sc)) := fun w' hcc => (hcc.cell (p := ad.add k2) (by rw [add_block]; exact had) (by simp)).trans hc
            have hcA := HAD.out (wr.alloc (.cells #[] 51)) ((Chg.refl _ _).alloc _)
            go_wp2_with (
              at_builtin
              refine wpList_append_rd _ rfl (.tmp 85) (.tmp 89) 25 (by rfl) wr.heap.size 51 i1 _ 9 96 Try.underlying25 hi1 hy0 hy1 hy2 rfl (by omega) (.slice (some ⟨wr.heap.size, 0, none⟩) 0 0) 0 [] (by rfl) (World.ownsRow_made wr #[] 0 (Nat.le_refl _) (by simp [maxLen]) rfl) sA sl.length sc (cRc sl) (by rfl) ((R9.out.keep0 HC2.out).alloc _) (cRc_one _) (by unfold maxLen; omega) (by omega) (by simp) ?_
              intro A4 c4 w4 hown4 hg4 hb4
              simp only [Nat.zero_add, List.nil_append] at hown4
              have hch4 : Chg [] wr w4 := ((Chg.refl [] _).alloc _).grown hg4 (fun k hk => .inr (by simp [Value.ownBlock] at hk; omega))
              clear hg4 hb4)
            have HC4 := Lib.hid (HC2.out.trans hch4 (by simp))
            have HI4 := Lib.hid (HI.out.keep hch4 (by simp))
            have HX4 := Lib.hid (HX.out.keep hch4 (by simp))
            refine (take_any w4 gi a o ap HI4.out ap0 ap1 A4 _ c4 sl rfl (Rd.of_own hown4) (fun r hr => ((R7.out r hr).1).keep0 HC4.out) (by omega) (fun r hr => (R7.out r hr).2.2)).mono ?_
            rintro e w5 ⟨A5, c5, l5, rfl, hl5, hown5, hO5, hch5⟩
            have HC5 := Lib.hid (HC4.out.trans hch5 (by simp))
            have HI5 := Lib.hid (HI4.out.keep hch5 (by simp))
            have HX5 := Lib.hid (HX4.out.keep hch5 (by simp))
            have hcc := HAD.out w5 (hch4.trans hch5 (by simp))
            have R5 := Lib.hid (Rd.of_own hown5)
            have O5 : Hid (∀ x ∈ l5, Rd w5 1 x.A x.r.val.length (cB x.r.val)) := fun x hx => Rd.of_own (hO5.out x hx)
            clear hown4 hch4 hown5 hO5 hch5 HI4 HX4 HC4 HI HX HC2 HAD hc hcA
            go_wp2_with (fail)
            refine (refTake_any w5 gx a o ap HX5.out ap0 ap1 sA _ sc sl rfl (R9.out.keep0 HC5.out) (fun r hr => ((R7.out r hr).1).keep0 HC5.out) (by omega) (fun r hr => (R7.out r hr).2.2)).mono ?_
            rintro e w6 ⟨A6, c6, l6, rfl, hl6, hown6, hO6, hch6⟩
            have HC6 := Lib.hid (HC5.out.trans hch6 (by simp))
            have HI6 := Lib.hid (HI5.out.keep hch6 (by simp))
            have HX6 := Lib.hid (HX5.out.keep hch6 (by simp))
            have R6 := Lib.hid (Rd.of_own hown6)
            have O6 : Hid (∀ x ∈ l6, Rd w6 1 x.A x.r.val.length (cB x.r.val)) := fun x hx => Rd.of_own (hO6.out x hx)
            have hl4 : l6.length ≤ 400 := by
              have h := congrArg List.length hl6.out
              rw [List.length_map] at h
              have h2 := takeN_len o ap (sl.map RcV.r) 0
              rw [List.length_map] at h2
              omega
            have hll : l5.length = l6.length := by
              have h := congrArg List.length (hl5.out.trans hl6.out.symm)
              rw [List.length_map, List.length_map] at h
              exact h
            have HLL := Lib.hid hll
            have hl54 : l5.length ≤ 400 := by omega
            clear hown6 hO6 HC5 HI5 HX5 hcc hll
            go_wp2_with (fail)
            refine (records_yes w6 A5 A6 _ _ c5 c6 l5 l6 (hl5.out.trans hl6.out.symm) rfl rfl (R5.out.keep0 hch6) R6.out (fun x hx => (O5.out x hx).keep0 hch6) O6.out (by omega)).mono ?_
            rintro e w7 ⟨rfl, hch7⟩
            have HC7 := Lib.hid (HC6.out.trans hch7 (by simp))
            have HI7 := Lib.hid (HI6.out.keep hch7 (by simp))
            have HX7 := Lib.hid (HX6.out.keep hch7 (by simp))
            obtain ⟨_, _, cx⟩ := HX7.out.i3
            simp only at cx
            clear HC6 HI6 HX6 R5 R6 O5 O6 hch6 hch7 hl5 hl6
            have KI : Hid (∀ w', Chg [] w7 w' → At w' gi 84 (ISt.cells ⟨a, o, ap⟩)) := fun w' hc => HI7.out.keep hc (by simp)
            by_cases hkd : k2 < ds.length
            · have hkdi : (k2 : Int) < (ds.length : Int) := by omega
              obtain ⟨bd, u, rfl, hbd, hu, hcu⟩ := (RY.out.keep0 HC7.out).get hkd
              have hu2 : (cII ds)[k2]? = some (.int .i64 ds[k2]) := by simp [cII, hkd]
              rw [hu2] at hu
              generalize ds[k2] = dv at *
              obtain rfl : Value.int .i64 dv = u := by simpa using hu
              clear hu hu2
              go_wp2_with (fail)
              have KX : Hid (∀ w', Chg [gi] w7 w' → At w' gx 37 (ISt.cells ⟨a, o, ap⟩)) := fun w' hc => HX7.out.keep hc (by simp; omega)
              have HAL : Hid (∀ x ∈ [((doneI ⟨a, o, ap⟩ dv).a, (doneI ⟨a, o, ap⟩ dv).o, ackB (doneI ⟨a, o, ap⟩ dv).o (doneI ⟨a, o, ap⟩ dv).k)], x.2.2.length ≤ 1000000) := fun x hx => by
                obtain rfl := List.mem_singleton.1 hx
                have h := doneI_ok HOK.out dv
                exact ackB_len h.o0 h.o5 h.k0 h.k1
              have hgxw7 : gx < w7.heap.size := HX7.out.lt
              refine wp_region_held_drew (S := fun _ => True) (by kernel_rfl) trivial (fun hHeld => ?_)
              refine takeW (i := 0) (d := (some 117)) (v := ?_) rfl rfl (by kernel_rfl) (by kernel_rfl) (by kernel_rfl) (fun _ _ _ h => h) (by rfl) ?_ (by assumption) ?_
              rotate_left
              · intro w' hSw; (try dsimp only at hSw); go_simp; try with_reducible rfl
              try simp only [Act.put, List.setIfInBounds_toArray, List.set_cons_zero, List.set_cons_succ]
              refine takeW (i := 1) (d := (some 118)) (v := ?_) rfl rfl (by kernel_rfl) (by kernel_rfl) (by kernel_rfl) (fun _ _ _ h => h) (by rfl) ?_ (by assumption) ?_
              rotate_left
              · intro w' hSw; (try dsimp only at hSw); go_simp; try with_reducible rfl
              try simp only [Act.put, List.setIfInBounds_toArray, List.set_cons_zero, List.set_cons_succ]
              refine takeW (i := 3) (d := (some 120)) (v := ?_) rfl rfl (by kernel_rfl) (by kernel_rfl) (by kernel_rfl) (fun _ _ _ h => h) (by rfl) ?_ (by assumption) ?_
              rotate_left
              · intro w' hSw; (try dsimp only at hSw); go_simp; try with_reducible rfl
              try simp only [Act.put, List.setIfInBounds_toArray, List.set_cons_zero, List.set_cons_succ]
              refine takeW (i := 4) (d := (some 121)) (v := ?_) rfl rfl (by kernel_rfl) (by kernel_rfl) (by kernel_rfl) (fun _ _ _ h => h) (by rfl) ?_ (by assumption) ?_
              rotate_left
              · intro w' hSw; (try dsimp only at hSw); go_simp; try with_reducible rfl
              try simp only [Act.put, List.setIfInBounds_toArray, List.set_cons_zero, List.set_cons_succ]
              refine wpAnyH_ready (rs := [2]) (by kernel_rfl) (by simp) ?_
              refine AllReadyH.cons rfl (fun K hK => ?_) AllReadyH.nil
              go_simp
              go_at_call 18
              (with_reducible refine (done_any _ gi ⟨a, o, ap⟩ (KI.out _ (by repeat' (first | (with_reducible assumption) | (with_reducible exact Chg.refl _ _) | (with_reducible refine Chg.alloc ?_ _) | (with_reducible refine Chg.drewN ?_ _) | (with_reducible refine Chg.drew ?_) | (with_reducible refine Chg.strW ?_ _ _) | (with_reducible refine Chg.t0 ?_ (by with_reducible assumption))))) HOK.out dv).mono ?_)
              rintro e w11 ⟨A11, c11, ms11, rfl, hm11, hn11, hI11, hch11⟩
              have q11 : Hid (Chg [gi] w7 w11) := (Chg.trans (by repeat' (first | (with_reducible assumption) | (with_reducible exact Chg.refl _ _) | (with_reducible refine Chg.alloc ?_ _) | (with_reducible refine Chg.drewN ?_ _) | (with_reducible refine Chg.drew ?_) | (with_reducible refine Chg.strW ?_ _ _) | (with_reducible refine Chg.t0 ?_ (by with_reducible assumption)))) hch11 (by simp) : Chg [gi] w7 w11)
              have HM11 := Lib.hid hm11
              have HI11 := Lib.hid hI11
              have HN11 : Hid (MsgsNew w7 A11 ms11) := hn11.of_le (Nat.le_refl _)
              clear hm11 hn11 hI11 hch11
              go_wp2_with (fail)
              refine hK.out _ _ ?_ (fun hHeld => ?_)
              · trivial
              clear hK K
              try simp only [Act.put, List.setIfInBounds_toArray, List.set_cons_zero, List.set_cons_succ]
              refine wpAnyH_ready (rs := [5]) (by kernel_rfl) (by simp) ?_
              refine AllReadyH.cons rfl (fun K hK => ?_) AllReadyH.nil
              go_simp
              go_at_call 19
              (with_reducible refine (refDone_any w11 gx ⟨a, o, ap⟩ (KX.out w11 q11.out) HOK.out dv).mono ?_)
              rintro e w12 ⟨A12, c12, ms12, rfl, hm12, hX12, hch12⟩
              have HM12 := Lib.hid hm12
              have HX12 := Lib.hid hX12
              have HI12 : Hid (At w12 gi 84 (doneI ⟨a, o, ap⟩ dv).cells) := HI11.out.keep hch12 (by simp; omega)
              have q12 := Lib.hid hch12
              have HM11b := Lib.hid (HM11.out.keepS HN11.out hch12 (by simp; omega))
              clear hm12 hX12 hch12
              go_wp2_with (fail)
              refine hK.out _ _ ?_ (fun hHeld => ?_)
              · trivial
              clear hK K
              try simp only [Act.put, List.setIfInBounds_toArray, List.set_cons_zero, List.set_cons_succ]
              refine wpAnyH_ready (rs := [6]) (by kernel_rfl) (by simp) ?_
              refine AllReadyH.cons rfl (fun K hK => ?_) AllReadyH.nil
              go_simp
              go_at_call 17
              (with_reducible refine (messages_yes w12 A11 A12 _ _ c11 c12 ms11 ms12 _ rfl rfl HM11b.out HM12.out (by simp) HAL.out).mono ?_)
              rintro e w13 ⟨rfl, hch13⟩
              have q13 := Lib.hid hch13
              have cx2 := (HX12.out.keep hch13 (by simp)).i3.2.2
              clear hch13
              go_wp2_with (fail)
              refine hK.out _ _ ?_ (fun hHeld => ?_)
              · trivial
              clear hK K
              try simp only [Act.put, List.setIfInBounds_toArray, List.set_cons_zero, List.set_cons_succ]
              refine takeW (i := 7) (d := (some 124)) (v := ?_) rfl rfl (by kernel_rfl) (by kernel_rfl) (by kernel_rfl) (fun _ _ _ h => h) (by rfl) ?_ (by assumption) ?_
              rotate_left
              · intro w' hSw; (try dsimp only at hSw); go_simp; try with_reducible rfl
              try simp only [Act.put, List.setIfInBounds_toArray, List.set_cons_zero, List.set_cons_succ]
              refine takeW (i := 8) (d := (some 125)) (v := ?_) rfl rfl (by kernel_rfl) (by kernel_rfl) (by kernel_rfl) (fun _ _ _ h => h) (by rfl) ?_ (by assumption) ?_
              rotate_left
              · intro w' hSw; (try dsimp only at hSw); go_simp; try with_reducible rfl
              try simp only [Act.put, List.setIfInBounds_toArray, List.set_cons_zero, List.set_cons_succ]
              refine takeW (i := 9) (d := (some 126)) (v := ?_) rfl rfl (by kernel_rfl) (by kernel_rfl) (by kernel_rfl) (fun _ _ _ h => h) (by rfl) ?_ (by assumption) ?_
              rotate_left
              · intro w' hSw; (try dsimp only at hSw); go_simp; try with_reducible rfl
              try simp only [Act.put, List.setIfInBounds_toArray, List.set_cons_zero, List.set_cons_succ]
              refine takeW (i := 11) (d := (some 128)) (v := ?_) rfl rfl (by kernel_rfl) (by kernel_rfl) (by kernel_rfl) (fun _ _ _ h => h) (by rfl) ?_ (by assumption) ?_
              rotate_left
              · intro w' hSw; (try dsimp only at hSw); go_simp; try with_reducible rfl
              try simp only [Act.put, List.setIfInBounds_toArray, List.set_cons_zero, List.set_cons_succ]
              refine takeW (i := 12) (d := (some 129)) (v := ?_) rfl rfl (by kernel_rfl) (by kernel_rfl) (by kernel_rfl) (fun _ _ _ h => h) (by rfl) ?_ (by assumption) ?_
              rotate_left
              · intro w' hSw; (try dsimp only at hSw); go_simp; try with_reducible rfl
              try simp only [Act.put, List.setIfInBounds_toArray, List.set_cons_zero, List.set_cons_succ]
              refine takeW (i := 13) (d := (some 130)) (v := ?_) rfl rfl (by kernel_rfl) (by kernel_rfl) (by kernel_rfl) (fun _ _ _ h => h) (by rfl) ?_ (by assumption) ?_
              rotate_left
              · intro w' hSw; (try dsimp only at hSw); go_simp; try with_reducible rfl
              try simp only [Act.put, List.setIfInBounds_toArray, List.set_cons_zero, List.set_cons_succ]
              refine wpAnyH_ready (rs := [10, 14]) (by kernel_rfl) (by simp) ?_
              refine AllReadyH.cons rfl (fun K hK => ?_) (AllReadyH.cons rfl (fun K hK => ?_) AllReadyH.nil)
              · go_simp
                go_at_call 20
                (with_reducible refine (applied_any _ gi _ (HI12.out.keep q13.out (by simp))).mono ?_)
                rintro e w14 ⟨rfl, hw14⟩
                obtain rfl : w13 = w14 := hw14.symm
                go_wp2_with (fail)
                refine hK.out _ _ ?_ (fun hHeld => ?_)
                · trivial
                clear hK K
                try simp only [Act.put, List.setIfInBounds_toArray, List.set_cons_zero, List.set_cons_succ]
                refine wpAnyH_ready (rs := [14]) (by kernel_rfl) (by simp) ?_
                refine AllReadyH.cons rfl (fun K hK => ?_) AllReadyH.nil
                go_simp
                skip
                go_wp2_with (fail)
                refine hK.out _ _ ?_ (fun hHeld => ?_)
                · trivial
                clear hK K
                try simp only [Act.put, List.setIfInBounds_toArray, List.set_cons_zero, List.set_cons_succ]
                refine takeW (i := 15) (d := (some 132)) (v := ?_) rfl rfl (by kernel_rfl) (by kernel_rfl) (by kernel_rfl) (fun _ _ _ h => h) (by rfl) ?_ (by assumption) ?_
                rotate_left
                · intro w' hSw; (try dsimp only at hSw); go_simp; try with_reducible rfl
                try simp only [Act.put, List.setIfInBounds_toArray, List.set_cons_zero, List.set_cons_succ]
                refine takeW (i := 16) (d := (some 133)) (v := ?_) rfl rfl (by kernel_rfl) (by kernel_rfl) (by kernel_rfl) (fun _ _ _ h => h) (by rfl) ?_ (by assumption) ?_
                rotate_left
                · intro w' hSw; (try dsimp only at hSw); go_simp; try with_reducible rfl
                try simp only [Act.put, List.setIfInBounds_toArray, List.set_cons_zero, List.set_cons_succ]
                refine wpAnyH_done (by kernel_rfl) ?_ _
                have c13 : Hid (Chg [] w w13) := ((HC7.out.trans q11.out (by simp; omega)).trans q12.out (by simp; omega)).trans q13.out (by simp)
                have hI13 := Lib.hid (HI12.out.keep q13.out (by simp))
                have hX13 := Lib.hid (HX12.out.keep q13.out (by simp))
                have HOK2 := Lib.hid (doneI_ok HOK.out dv)
                go_wp2_with (fail)
                go_roundw
                case rel => exact ⟨k2 + 1, (doneI ⟨a, o, ap⟩ dv).k, by omega, by omega, by go_num, HOK2.out.k0, HOK2.out.k1, hI13.out, hX13.out, c13.out⟩
                case measure => simp [intOf]; omega
              · go_simp
                skip
                go_wp2_with (fail)
                refine hK.out _ _ ?_ (fun hHeld => ?_)
                · trivial
                clear hK K
                try simp only [Act.put, List.setIfInBounds_toArray, List.set_cons_zero, List.set_cons_succ]
                refine wpAnyH_ready (rs := [10]) (by kernel_rfl) (by simp) ?_
                refine AllReadyH.cons rfl (fun K hK => ?_) AllReadyH.nil
                go_simp
                go_at_call 20
                (with_reducible refine (applied_any _ gi _ (HI12.out.keep q13.out (by simp))).mono ?_)
                rintro e w14 ⟨rfl, hw14⟩
                obtain rfl : w13 = w14 := hw14.symm
                go_wp2_with (fail)
                refine hK.out _ _ ?_ (fun hHeld => ?_)
                · trivial
                clear hK K
                try simp only [Act.put, List.setIfInBounds_toArray, List.set_cons_zero, List.set_cons_succ]
                refine takeW (i := 15) (d := (some 132)) (v := ?_) rfl rfl (by kernel_rfl) (by kernel_rfl) (by kernel_rfl) (fun _ _ _ h => h) (by rfl) ?_ (by assumption) ?_
                rotate_left
                · intro w' hSw; (try dsimp only at hSw); go_simp; try with_reducible rfl
                try simp only [Act.put, List.setIfInBounds_toArray, List.set_cons_zero, List.set_cons_succ]
                refine takeW (i := 16) (d := (some 133)) (v := ?_) rfl rfl (by kernel_rfl) (by kernel_rfl) (by kernel_rfl) (fun _ _ _ h => h) (by rfl) ?_ (by assumption) ?_
                rotate_left
                · intro w' hSw; (try dsimp only at hSw); go_simp; try with_reducible rfl
                try simp only [Act.put, List.setIfInBounds_toArray, List.set_cons_zero, List.set_cons_succ]
                refine wpAnyH_done (by kernel_rfl) ?_ _
                have c13 : Hid (Chg [] w w13) := ((HC7.out.trans q11.out (by simp; omega)).trans q12.out (by simp; omega)).trans q13.out (by simp)
                have hI13 := Lib.hid (HI12.out.keep q13.out (by simp))
                have hX13 := Lib.hid (HX12.out.keep q13.out (by simp))
                have HOK2 := Lib.hid (doneI_ok HOK.out dv)
                go_wp2_with (fail)
                go_roundw
                case rel => exact ⟨k2 + 1, (doneI ⟨a, o, ap⟩ dv).k, by omega, by omega, by go_num, HOK2.out.k0, HOK2.out.k1, hI13.out, hX13.out, c13.out⟩
                case measure => simp [intOf]; omega
            · have hkdi : ¬ (k2 : Int) < (ds.length : Int) := by omega
              go_wp2_with (fail)
              have KX : Hid (∀ w', Chg [gi] w7 w' → At w' gx 37 (ISt.cells ⟨a, o, ap⟩)) := fun w' hc => HX7.out.keep hc (by simp; omega)
              have HAL : Hid (∀ x ∈ [((doneI ⟨a, o, ap⟩ (ap + (l6.length : Int))).a, (doneI ⟨a, o, ap⟩ (ap + (l6.length : Int))).o, ackB (doneI ⟨a, o, ap⟩ (ap + (l6.length : Int))).o (doneI ⟨a, o, ap⟩ (ap + (l6.length : Int))).k)], x.2.2.length ≤ 1000000) := fun x hx => by
                obtain rfl := List.mem_singleton.1 hx
                have h := doneI_ok HOK.out (ap + (l6.length : Int))
                exact ackB_len h.o0 h.o5 h.k0 h.k1
              have hgxw7 : gx < w7.heap.size := HX7.out.lt
              refine wp_region_held_drew (S := fun _ => True) (by kernel_rfl) trivial (fun hHeld => ?_)
              refine takeW (i := 0) (d := (some 117)) (v := ?_) rfl rfl (by kernel_rfl) (by kernel_rfl) (by kernel_rfl) (fun _ _ _ h => h) (by rfl) ?_ (by assumption) ?_
              rotate_left
              · intro w' hSw; (try dsimp only at hSw); go_simp; try with_reducible rfl
              try simp only [Act.put, List.setIfInBounds_toArray, List.set_cons_zero, List.set_cons_succ]
              refine takeW (i := 1) (d := (some 118)) (v := ?_) rfl rfl (by kernel_rfl) (by kernel_rfl) (by kernel_rfl) (fun _ _ _ h => h) (by rfl) ?_ (by assumption) ?_
              rotate_left
              · intro w' hSw; (try dsimp only at hSw); go_simp; try with_reducible rfl
              try simp only [Act.put, List.setIfInBounds_toArray, List.set_cons_zero, List.set_cons_succ]
              refine takeW (i := 3) (d := (some 120)) (v := ?_) rfl rfl (by kernel_rfl) (by kernel_rfl) (by kernel_rfl) (fun _ _ _ h => h) (by rfl) ?_ (by assumption) ?_
              rotate_left
              · intro w' hSw; (try dsimp only at hSw); go_simp; try with_reducible rfl
              try simp only [Act.put, List.setIfInBounds_toArray, List.set_cons_zero, List.set_cons_succ]
              refine takeW (i := 4) (d := (some 121)) (v := ?_) rfl rfl (by kernel_rfl) (by kernel_rfl) (by kernel_rfl) (fun _ _ _ h => h) (by rfl) ?_ (by assumption) ?_
              rotate_left
              · intro w' hSw; (try dsimp only at hSw); go_simp; try with_reducible rfl
              try simp only [Act.put, List.setIfInBounds_toArray, List.set_cons_zero, List.set_cons_succ]
              refine wpAnyH_ready (rs := [2]) (by kernel_rfl) (by simp) ?_
              refine AllReadyH.cons rfl (fun K hK => ?_) AllReadyH.nil
              go_simp
              go_at_call 18
              (with_reducible refine (done_any _ gi ⟨a, o, ap⟩ (KI.out _ (by repeat' (first | (with_reducible assumption) | (with_reducible exact Chg.refl _ _) | (with_reducible refine Chg.alloc ?_ _) | (with_reducible refine Chg.drewN ?_ _) | (with_reducible refine Chg.drew ?_) | (with_reducible refine Chg.strW ?_ _ _) | (with_reducible refine Chg.t0 ?_ (by with_reducible assumption))))) HOK.out (ap + (l6.length : Int))).mono ?_)
              rintro e w11 ⟨A11, c11, ms11, rfl, hm11, hn11, hI11, hch11⟩
              have q11 : Hid (Chg [gi] w7 w11) := (Chg.trans (by repeat' (first | (with_reducible assumption) | (with_reducible exact Chg.refl _ _) | (with_reducible refine Chg.alloc ?_ _) | (with_reducible refine Chg.drewN ?_ _) | (with_reducible refine Chg.drew ?_) | (with_reducible refine Chg.strW ?_ _ _) | (with_reducible refine Chg.t0 ?_ (by with_reducible assumption)))) hch11 (by simp) : Chg [gi] w7 w11)
              have HM11 := Lib.hid hm11
              have HI11 := Lib.hid hI11
              have HN11 : Hid (MsgsNew w7 A11 ms11) := hn11.of_le (Nat.le_refl _)
              clear hm11 hn11 hI11 hch11
              go_wp2_with (fail)
              refine hK.out _ _ ?_ (fun hHeld => ?_)
              · trivial
              clear hK K
              try simp only [Act.put, List.setIfInBounds_toArray, List.set_cons_zero, List.set_cons_succ]
              refine wpAnyH_ready (rs := [5]) (by kernel_rfl) (by simp) ?_
              refine AllReadyH.cons rfl (fun K hK => ?_) AllReadyH.nil
              go_simp
              go_at_call 19
              (with_reducible refine (refDone_any w11 gx ⟨a, o, ap⟩ (KX.out w11 q11.out) HOK.out (ap + (l6.length : Int))).mono ?_)
              rintro e w12 ⟨A12, c12, ms12, rfl, hm12, hX12, hch12⟩
              have HM12 := Lib.hid hm12
              have HX12 := Lib.hid hX12
              have HI12 : Hid (At w12 gi 84 (doneI ⟨a, o, ap⟩ (ap + (l6.length : Int))).cells) := HI11.out.keep hch12 (by simp; omega)
              have q12 := Lib.hid hch12
              have HM11b := Lib.hid (HM11.out.keepS HN11.out hch12 (by simp; omega))
              clear hm12 hX12 hch12
              go_wp2_with (fail)
              refine hK.out _ _ ?_ (fun hHeld => ?_)
              · trivial
              clear hK K
              try simp only [Act.put, List.setIfInBounds_toArray, List.set_cons_zero, List.set_cons_succ]
              refine wpAnyH_ready (rs := [6]) (by kernel_rfl) (by simp) ?_
              refine AllReadyH.cons rfl (fun K hK => ?_) AllReadyH.nil
              go_simp
              go_at_call 17
              (with_reducible refine (messages_yes w12 A11 A12 _ _ c11 c12 ms11 ms12 _ rfl rfl HM11b.out HM12.out (by simp) HAL.out).mono ?_)
              rintro e w13 ⟨rfl, hch13⟩
              have q13 := Lib.hid hch13
              have cx2 := (HX12.out.keep hch13 (by simp)).i3.2.2
              clear hch13
              go_wp2_with (fail)
              refine hK.out _ _ ?_ (fun hHeld => ?_)
              · trivial
              clear hK K
              try simp only [Act.put, List.setIfInBounds_toArray, List.set_cons_zero, List.set_cons_succ]
              refine takeW (i := 7) (d := (some 124)) (v := ?_) rfl rfl (by kernel_rfl) (by kernel_rfl) (by kernel_rfl) (fun _ _ _ h => h) (by rfl) ?_ (by assumption) ?_
              rotate_left
              · intro w' hSw; (try dsimp only at hSw); go_simp; try with_reducible rfl
              try simp only [Act.put, List.setIfInBounds_toArray, List.set_cons_zero, List.set_cons_succ]
              refine takeW (i := 8) (d := (some 125)) (v := ?_) rfl rfl (by kernel_rfl) (by kernel_rfl) (by kernel_rfl) (fun _ _ _ h => h) (by rfl) ?_ (by assumption) ?_
              rotate_left
              · intro w' hSw; (try dsimp only at hSw); go_simp; try with_reducible rfl
              try simp only [Act.put, List.setIfInBounds_toArray, List.set_cons_zero, List.set_cons_succ]
              refine takeW (i := 9) (d := (some 126)) (v := ?_) rfl rfl (by kernel_rfl) (by kernel_rfl) (by kernel_rfl) (fun _ _ _ h => h) (by rfl) ?_ (by assumption) ?_
              rotate_left
              · intro w' hSw; (try dsimp only at hSw); go_simp; try with_reducible rfl
              try simp only [Act.put, List.setIfInBounds_toArray, List.set_cons_zero, List.set_cons_succ]
              refine takeW (i := 11) (d := (some 128)) (v := ?_) rfl rfl (by kernel_rfl) (by kernel_rfl) (by kernel_rfl) (fun _ _ _ h => h) (by rfl) ?_ (by assumption) ?_
              rotate_left
              · intro w' hSw; (try dsimp only at hSw); go_simp; try with_reducible rfl
              try simp only [Act.put, List.setIfInBounds_toArray, List.set_cons_zero, List.set_cons_succ]
              refine takeW (i := 12) (d := (some 129)) (v := ?_) rfl rfl (by kernel_rfl) (by kernel_rfl) (by kernel_rfl) (fun _ _ _ h => h) (by rfl) ?_ (by assumption) ?_
              rotate_left
              · intro w' hSw; (try dsimp only at hSw); go_simp; try with_reducible rfl
              try simp only [Act.put, List.setIfInBounds_toArray, List.set_cons_zero, List.set_cons_succ]
              refine takeW (i := 13) (d := (some 130)) (v := ?_) rfl rfl (by kernel_rfl) (by kernel_rfl) (by kernel_rfl) (fun _ _ _ h => h) (by rfl) ?_ (by assumption) ?_
              rotate_left
              · intro w' hSw; (try dsimp only at hSw); go_simp; try with_reducible rfl
              try simp only [Act.put, List.setIfInBounds_toArray, List.set_cons_zero, List.set_cons_succ]
              refine wpAnyH_ready (rs := [10, 14]) (by kernel_rfl) (by simp) ?_
              refine AllReadyH.cons rfl (fun K hK => ?_) (AllReadyH.cons rfl (fun K hK => ?_) AllReadyH.nil)
              · go_simp
                go_at_call 20
                (with_reducible refine (applied_any _ gi _ (HI12.out.keep q13.out (by simp))).mono ?_)
                rintro e w14 ⟨rfl, hw14⟩
                obtain rfl : w13 = w14 := hw14.symm
                go_wp2_with (fail)
                refine hK.out _ _ ?_ (fun hHeld => ?_)
                · trivial
                clear hK K
                try simp only [Act.put, List.setIfInBounds_toArray, List.set_cons_zero, List.set_cons_succ]
                refine wpAnyH_ready (rs := [14]) (by kernel_rfl) (by simp) ?_
                refine AllReadyH.cons rfl (fun K hK => ?_) AllReadyH.nil
                go_simp
                skip
                go_wp2_with (fail)
                refine hK.out _ _ ?_ (fun hHeld => ?_)
                · trivial
                clear hK K
                try simp only [Act.put, List.setIfInBounds_toArray, List.set_cons_zero, List.set_cons_succ]
                refine takeW (i := 15) (d := (some 132)) (v := ?_) rfl rfl (by kernel_rfl) (by kernel_rfl) (by kernel_rfl) (fun _ _ _ h => h) (by rfl) ?_ (by assumption) ?_
                rotate_left
                · intro w' hSw; (try dsimp only at hSw); go_simp; try with_reducible rfl
                try simp only [Act.put, List.setIfInBounds_toArray, List.set_cons_zero, List.set_cons_succ]
                refine takeW (i := 16) (d := (some 133)) (v := ?_) rfl rfl (by kernel_rfl) (by kernel_rfl) (by kernel_rfl) (fun _ _ _ h => h) (by rfl) ?_ (by assumption) ?_
                rotate_left
                · intro w' hSw; (try dsimp only at hSw); go_simp; try with_reducible rfl
                try simp only [Act.put, List.setIfInBounds_toArray, List.set_cons_zero, List.set_cons_succ]
                refine wpAnyH_done (by kernel_rfl) ?_ _
                have c13 : Hid (Chg [] w w13) := ((HC7.out.trans q11.out (by simp; omega)).trans q12.out (by simp; omega)).trans q13.out (by simp)
                have hI13 := Lib.hid (HI12.out.keep q13.out (by simp))
                have hX13 := Lib.hid (HX12.out.keep q13.out (by simp))
                have HOK2 := Lib.hid (doneI_ok HOK.out (ap + (l6.length : Int)))
                go_wp2_with (fail)
                go_roundw
                case rel => exact ⟨k2 + 1, (doneI ⟨a, o, ap⟩ (ap + (l6.length : Int))).k, by omega, by omega, by go_num, HOK2.out.k0, HOK2.out.k1, hI13.out, hX13.out, c13.out⟩
                case measure => simp [intOf]; omega
              · go_simp
                skip
                go_wp2_with (fail)
                refine hK.out _ _ ?_ (fun hHeld => ?_)
                · trivial
                clear hK K
                try simp only [Act.put, List.setIfInBounds_toArray, List.set_cons_zero, List.set_cons_succ]
                refine wpAnyH_ready (rs := [10]) (by kernel_rfl) (by simp) ?_
                refine AllReadyH.cons rfl (fun K hK => ?_) AllReadyH.nil
                go_simp
                go_at_call 20
                (with_reducible refine (applied_any _ gi _ (HI12.out.keep q13.out (by simp))).mono ?_)
                rintro e w14 ⟨rfl, hw14⟩
                obtain rfl : w13 = w14 := hw14.symm
                go_wp2_with (fail)
                refine hK.out _ _ ?_ (fun hHeld => ?_)
                · trivial
                clear hK K
                try simp only [Act.put, List.setIfInBounds_toArray, List.set_cons_zero, List.set_cons_succ]
                refine takeW (i := 15) (d := (some 132)) (v := ?_) rfl rfl (by kernel_rfl) (by kernel_rfl) (by kernel_rfl) (fun _ _ _ h => h) (by rfl) ?_ (by assumption) ?_
                rotate_left
                · intro w' hSw; (try dsimp only at hSw); go_simp; try with_reducible rfl
                try simp only [Act.put, List.setIfInBounds_toArray, List.set_cons_zero, List.set_cons_succ]
                refine takeW (i := 16) (d := (some 133)) (v := ?_) rfl rfl (by kernel_rfl) (by kernel_rfl) (by kernel_rfl) (fun _ _ _ h => h) (by rfl) ?_ (by assumption) ?_
                rotate_left
                · intro w' hSw; (try dsimp only at hSw); go_simp; try with_reducible rfl
                try simp only [Act.put, List.setIfInBounds_toArray, List.set_cons_zero, List.set_cons_succ]
                refine wpAnyH_done (by kernel_rfl) ?_ _
                have c13 : Hid (Chg [] w w13) := ((HC7.out.trans q11.out (by simp; omega)).trans q12.out (by simp; omega)).trans q13.out (by simp)
                have hI13 := Lib.hid (HI12.out.keep q13.out (by simp))
                have hX13 := Lib.hid (HX12.out.keep q13.out (by simp))
                have HOK2 := Lib.hid (doneI_ok HOK.out (ap + (l6.length : Int)))
                go_wp2_with (fail)
                go_roundw
                case rel => exact ⟨k2 + 1, (doneI ⟨a, o, ap⟩ (ap + (l6.length : Int))).k, by omega, by omega, by go_num, HOK2.out.k0, HOK2.out.k1, hI13.out, hX13.out, c13.out⟩
                case measure => simp [intOf]; omega
          · by_cases h1 : k2 < ls.length
            · have h2 : ¬ (k2 : Int) < 40 := by omega
              have h1i : (k2 : Int) < (ls.length : Int) := by omega
              go_wp2_with (go_at_call 11; (with_reducible refine (knownL_any _).mono ?_); rintro e w9 ⟨rfl, hch9⟩)
              go_ret
              exact ⟨rfl, HC2.out.trans hch9 (by simp)⟩
            · have h1i : ¬ (k2 : Int) < (ls.length : Int) := by omega
              go_wp2_with (go_at_call 11; (with_reducible refine (knownL_any _).mono ?_); rintro e w9 ⟨rfl, hch9⟩)
              go_ret
              exact ⟨rfl, HC2.out.trans hch9 (by simp)⟩
      · have h1i : ¬ (k : Int) < (ls.length : Int) := by omega
        clear hstop
        go_wp2_with (fail)
        obtain ⟨s, hs⟩ : ∃ s, Hid (isWayS a o q = s) := ⟨_, rfl⟩
        cases s
        · refine (newIn_no _ _ _ _ hs.out).mono ?_
          rintro e w1 ⟨rfl, rfl⟩
          go_wp2_with (fail)
          refine (refNewIn_no _ _ _ _ hs.out).mono ?_
          rintro e w1 ⟨rfl, rfl⟩
          go_wp2_with (go_at_call 11; (with_reducible refine (knownL_any _).mono ?_); rintro e w9 ⟨rfl, hch9⟩)
          go_ret
          exact ⟨rfl, hch.out.trans hch9 (by simp)⟩
        obtain ⟨a0, a5, o0, o5, _, q0, q1⟩ := isWayS_iff.1 hs.out
        refine (newIn_yes _ _ _ _ hs.out).mono ?_
        rintro e w1 ⟨gi, rfl, hgi, hI1, hch1⟩
        have hgi1 := hI1.lt
        go_wp2_with (fail)
        refine (refNewIn_yes _ _ _ _ hs.out).mono ?_
        rintro e w2 ⟨gx, rfl, hgx, hX2, hch2⟩
        have hI2 := hI1.keep hch2 (by simp)
        have hc2 : Hid (Chg [] w w2) := (hch.out.trans hch1 (by simp)).trans hch2 (by simp)
        have hsw := hch.out.size
        have hgiw : w.heap.size ≤ gi := by omega
        have hgxw : w.heap.size ≤ gx := by have := hch1.size; omega
        have hgne : gi < gx := by omega
        clear hI1 hch1 hch2 hch hgi hgx hgi1
        go_wp2_with (fail)
        go_loopw [17] (fun i wr => ∃ (k : Nat) (ap : Int), k ≤ ls.length ∧ k ≤ 40 ∧ i = .int .i64 k ∧ 0 ≤ ap ∧ ap ≤ 1099511627776 ∧ Hid (At wr gi 84 (ISt.cells ⟨a, o, ap⟩)) ∧ Hid (At wr gx 37 (ISt.cells ⟨a, o, ap⟩)) ∧ Hid (Chg [] w wr)) (fun i _ => ls.length - (intOf i).toNat)
        case atStart => exact ⟨0, q, Nat.zero_le _, by omega, rfl, q0, q1, hI2, hX2, hc2⟩
        case round =>
          clear hI2 hX2 hc2
          obtain ⟨k2, ap, hk2, hk42, rfl, ap0, ap1, HI, HX, HC2⟩ := hrel
          have HOK : Hid (ISt.Ok ⟨a, o, ap⟩) := ⟨a0, a5, o0, o5, ap0, ap1⟩
          by_cases hlt2 : k2 < ls.length ∧ k2 < 40
          · obtain ⟨hlt2, hk40b⟩ := hlt2
            obtain ⟨ad, u, rfl, had, hu, hc⟩ := (RX.out.keep0 HC2.out).get hlt2
            rw [cRR_get hlt2] at hu
            obtain ⟨r9, r8, r7⟩ := HXS.out _ (List.getElem_mem hlt2)
            have hs400 := HS4.out k2 hlt2 hk40b
            generalize ls[k2] = s at *
            obtain ⟨sA, sc, sl⟩ := s
            obtain rfl : Value.slice sA sl.length sc = u := by simpa using hu
            simp only at r9 r8 r7 hc hs400
            clear hu
            have R9 := Lib.hid r9
            have R7 := Lib.hid r7
            clear r9 r7
            have hki2 : (k2 : Int) < (ls.length : Int) := by omega
            have hk4i2 : (k2 : Int) < 40 := by omega
            have HAD : Hid (∀ w', Chg [] wr w' → w'.cell? (ad.add k2) = some (.slice sA sl.length sc)) := fun w' hcc => (hcc.cell (p := ad.add k2) (by rw [add_block]; exact had) (by simp)).trans hc
            have hcA := HAD.out (wr.alloc (.cells #[] 51)) ((Chg.refl _ _).alloc _)
            go_wp2_with (
              at_builtin
              refine wpList_append_rd _ rfl (.tmp 85) (.tmp 89) 25 (by rfl) wr.heap.size 51 i1 _ 9 96 Try.underlying25 hi1 hy0 hy1 hy2 rfl (by omega) (.slice (some ⟨wr.heap.size, 0, none⟩) 0 0) 0 [] (by rfl) (World.ownsRow_made wr #[] 0 (Nat.le_refl _) (by simp [maxLen]) rfl) sA sl.length sc (cRc sl) (by rfl) ((R9.out.keep0 HC2.out).alloc _) (cRc_one _) (by unfold maxLen; omega) (by omega) (by simp) ?_
              intro A4 c4 w4 hown4 hg4 hb4
              simp only [Nat.zero_add, List.nil_append] at hown4
              have hch4 : Chg [] wr w4 := ((Chg.refl [] _).alloc _).grown hg4 (fun k hk => .inr (by simp [Value.ownBlock] at hk; omega))
              clear hg4 hb4)
            have HC4 := Lib.hid (HC2.out.trans hch4 (by simp))
            have HI4 := Lib.hid (HI.out.keep hch4 (by simp))
            have HX4 := Lib.hid (HX.out.keep hch4 (by simp))
            refine (take_any w4 gi a o ap HI4.out ap0 ap1 A4 _ c4 sl rfl (Rd.of_own hown4) (fun r hr => ((R7.out r hr).1).keep0 HC4.out) (by omega) (fun r hr => (R7.out r hr).2.2)).mono ?_
            rintro e w5 ⟨A5, c5, l5, rfl, hl5, hown5, hO5, hch5⟩
            have HC5 := Lib.hid (HC4.out.trans hch5 (by simp))
            have HI5 := Lib.hid (HI4.out.keep hch5 (by simp))
            have HX5 := Lib.hid (HX4.out.keep hch5 (by simp))
            have hcc := HAD.out w5 (hch4.trans hch5 (by simp))
            have R5 := Lib.hid (Rd.of_own hown5)
            have O5 : Hid (∀ x ∈ l5, Rd w5 1 x.A x.r.val.length (cB x.r.val)) := fun x hx => Rd.of_own (hO5.out x hx)
            clear hown4 hch4 hown5 hO5 hch5 HI4 HX4 HC4 HI HX HC2 HAD hc hcA
            go_wp2_with (fail)
            refine (refTake_any w5 gx a o ap HX5.out ap0 ap1 sA _ sc sl rfl (R9.out.keep0 HC5.out) (fun r hr => ((R7.out r hr).1).keep0 HC5.out) (by omega) (fun r hr => (R7.out r hr).2.2)).mono ?_
            rintro e w6 ⟨A6, c6, l6, rfl, hl6, hown6, hO6, hch6⟩
            have HC6 := Lib.hid (HC5.out.trans hch6 (by simp))
            have HI6 := Lib.hid (HI5.out.keep hch6 (by simp))
            have HX6 := Lib.hid (HX5.out.keep hch6 (by simp))
            have R6 := Lib.hid (Rd.of_own hown6)
            have O6 : Hid (∀ x ∈ l6, Rd w6 1 x.A x.r.val.length (cB x.r.val)) := fun x hx => Rd.of_own (hO6.out x hx)
            have hl4 : l6.length ≤ 400 := by
              have h := congrArg List.length hl6.out
              rw [List.length_map] at h
              have h2 := takeN_len o ap (sl.map RcV.r) 0
              rw [List.length_map] at h2
              omega
            have hll : l5.length = l6.length := by
              have h := congrArg List.length (hl5.out.trans hl6.out.symm)
              rw [List.length_map, List.length_map] at h
              exact h
            have HLL := Lib.hid hll
            have hl54 : l5.length ≤ 400 := by omega
            clear hown6 hO6 HC5 HI5 HX5 hcc hll
            go_wp2_with (fail)
            refine (records_yes w6 A5 A6 _ _ c5 c6 l5 l6 (hl5.out.trans hl6.out.symm) rfl rfl (R5.out.keep0 hch6) R6.out (fun x hx => (O5.out x hx).keep0 hch6) O6.out (by omega)).mono ?_
            rintro e w7 ⟨rfl, hch7⟩
            have HC7 := Lib.hid (HC6.out.trans hch7 (by simp))
            have HI7 := Lib.hid (HI6.out.keep hch7 (by simp))
            have HX7 := Lib.hid (HX6.out.keep hch7 (by simp))
            obtain ⟨_, _, cx⟩ := HX7.out.i3
            simp only at cx
            clear HC6 HI6 HX6 R5 R6 O5 O6 hch6 hch7 hl5 hl6
            have KI : Hid (∀ w', Chg [] w7 w' → At w' gi 84 (ISt.cells ⟨a, o, ap⟩)) := fun w' hc => HI7.out.keep hc (by simp)
            by_cases hkd : k2 < ds.length
            · have hkdi : (k2 : Int) < (ds.length : Int) := by omega
              obtain ⟨bd, u, rfl, hbd, hu, hcu⟩ := (RY.out.keep0 HC7.out).get hkd
              have hu2 : (cII ds)[k2]? = some (.int .i64 ds[k2]) := by simp [cII, hkd]
              rw [hu2] at hu
              generalize ds[k2] = dv at *
              obtain rfl : Value.int .i64 dv = u := by simpa using hu
              clear hu hu2
              go_wp2_with (fail)
              have KX : Hid (∀ w', Chg [gi] w7 w' → At w' gx 37 (ISt.cells ⟨a, o, ap⟩)) := fun w' hc => HX7.out.keep hc (by simp; omega)
              have HAL : Hid (∀ x ∈ [((doneI ⟨a, o, ap⟩ dv).a, (doneI ⟨a, o, ap⟩ dv).o, ackB (doneI ⟨a, o, ap⟩ dv).o (doneI ⟨a, o, ap⟩ dv).k)], x.2.2.length ≤ 1000000) := fun x hx => by
                obtain rfl := List.mem_singleton.1 hx
                have h := doneI_ok HOK.out dv
                exact ackB_len h.o0 h.o5 h.k0 h.k1
              have hgxw7 : gx < w7.heap.size := HX7.out.lt
              refine wp_region_held_drew (S := fun _ => True) (by kernel_rfl) trivial (fun hHeld => ?_)
              refine takeW (i := 0) (d := (some 117)) (v := ?_) rfl rfl (by kernel_rfl) (by kernel_rfl) (by kernel_rfl) (fun _ _ _ h => h) (by rfl) ?_ (by assumption) ?_
              rotate_left
              · intro w' hSw; (try dsimp only at hSw); go_simp; try with_reducible rfl
              try simp only [Act.put, List.setIfInBounds_toArray, List.set_cons_zero, List.set_cons_succ]
              refine takeW (i := 1) (d := (some 118)) (v := ?_) rfl rfl (by kernel_rfl) (by kernel_rfl) (by kernel_rfl) (fun _ _ _ h => h) (by rfl) ?_ (by assumption) ?_
              rotate_left
              · intro w' hSw; (try dsimp only at hSw); go_simp; try with_reducible rfl
              try simp only [Act.put, List.setIfInBounds_toArray, List.set_cons_zero, List.set_cons_succ]
              refine takeW (i := 3) (d := (some 120)) (v := ?_) rfl rfl (by kernel_rfl) (by kernel_rfl) (by kernel_rfl) (fun _ _ _ h => h) (by rfl) ?_ (by assumption) ?_
              rotate_left
              · intro w' hSw; (try dsimp only at hSw); go_simp; try with_reducible rfl
              try simp only [Act.put, List.setIfInBounds_toArray, List.set_cons_zero, List.set_cons_succ]
              refine takeW (i := 4) (d := (some 121)) (v := ?_) rfl rfl (by kernel_rfl) (by kernel_rfl) (by kernel_rfl) (fun _ _ _ h => h) (by rfl) ?_ (by assumption) ?_
              rotate_left
              · intro w' hSw; (try dsimp only at hSw); go_simp; try with_reducible rfl
              try simp only [Act.put, List.setIfInBounds_toArray, List.set_cons_zero, List.set_cons_succ]
              refine wpAnyH_ready (rs := [2]) (by kernel_rfl) (by simp) ?_
              refine AllReadyH.cons rfl (fun K hK => ?_) AllReadyH.nil
              go_simp
              go_at_call 18
              (with_reducible refine (done_any _ gi ⟨a, o, ap⟩ (KI.out _ (by repeat' (first | (with_reducible assumption) | (with_reducible exact Chg.refl _ _) | (with_reducible refine Chg.alloc ?_ _) | (with_reducible refine Chg.drewN ?_ _) | (with_reducible refine Chg.drew ?_) | (with_reducible refine Chg.strW ?_ _ _) | (with_reducible refine Chg.t0 ?_ (by with_reducible assumption))))) HOK.out dv).mono ?_)
              rintro e w11 ⟨A11, c11, ms11, rfl, hm11, hn11, hI11, hch11⟩
              have q11 : Hid (Chg [gi] w7 w11) := (Chg.trans (by repeat' (first | (with_reducible assumption) | (with_reducible exact Chg.refl _ _) | (with_reducible refine Chg.alloc ?_ _) | (with_reducible refine Chg.drewN ?_ _) | (with_reducible refine Chg.drew ?_) | (with_reducible refine Chg.strW ?_ _ _) | (with_reducible refine Chg.t0 ?_ (by with_reducible assumption)))) hch11 (by simp) : Chg [gi] w7 w11)
              have HM11 := Lib.hid hm11
              have HI11 := Lib.hid hI11
              have HN11 : Hid (MsgsNew w7 A11 ms11) := hn11.of_le (Nat.le_refl _)
              clear hm11 hn11 hI11 hch11
              go_wp2_with (fail)
              refine hK.out _ _ ?_ (fun hHeld => ?_)
              · trivial
              clear hK K
              try simp only [Act.put, List.setIfInBounds_toArray, List.set_cons_zero, List.set_cons_succ]
              refine wpAnyH_ready (rs := [5]) (by kernel_rfl) (by simp) ?_
              refine AllReadyH.cons rfl (fun K hK => ?_) AllReadyH.nil
              go_simp
              go_at_call 19
              (with_reducible refine (refDone_any w11 gx ⟨a, o, ap⟩ (KX.out w11 q11.out) HOK.out dv).mono ?_)
              rintro e w12 ⟨A12, c12, ms12, rfl, hm12, hX12, hch12⟩
              have HM12 := Lib.hid hm12
              have HX12 := Lib.hid hX12
              have HI12 : Hid (At w12 gi 84 (doneI ⟨a, o, ap⟩ dv).cells) := HI11.out.keep hch12 (by simp; omega)
              have q12 := Lib.hid hch12
              have HM11b := Lib.hid (HM11.out.keepS HN11.out hch12 (by simp; omega))
              clear hm12 hX12 hch12
              go_wp2_with (fail)
              refine hK.out _ _ ?_ (fun hHeld => ?_)
              · trivial
              clear hK K
              try simp only [Act.put, List.setIfInBounds_toArray, List.set_cons_zero, List.set_cons_succ]
              refine wpAnyH_ready (rs := [6]) (by kernel_rfl) (by simp) ?_
              refine AllReadyH.cons rfl (fun K hK => ?_) AllReadyH.nil
              go_simp
              go_at_call 17
              (with_reducible refine (messages_yes w12 A11 A12 _ _ c11 c12 ms11 ms12 _ rfl rfl HM11b.out HM12.out (by simp) HAL.out).mono ?_)
              rintro e w13 ⟨rfl, hch13⟩
              have q13 := Lib.hid hch13
              have cx2 := (HX12.out.keep hch13 (by simp)).i3.2.2
              clear hch13
              go_wp2_with (fail)
              refine hK.out _ _ ?_ (fun hHeld => ?_)
              · trivial
              clear hK K
              try simp only [Act.put, List.setIfInBounds_toArray, List.set_cons_zero, List.set_cons_succ]
              refine takeW (i := 7) (d := (some 124)) (v := ?_) rfl rfl (by kernel_rfl) (by kernel_rfl) (by kernel_rfl) (fun _ _ _ h => h) (by rfl) ?_ (by assumption) ?_
              rotate_left
              · intro w' hSw; (try dsimp only at hSw); go_simp; try with_reducible rfl
              try simp only [Act.put, List.setIfInBounds_toArray, List.set_cons_zero, List.set_cons_succ]
              refine takeW (i := 8) (d := (some 125)) (v := ?_) rfl rfl (by kernel_rfl) (by kernel_rfl) (by kernel_rfl) (fun _ _ _ h => h) (by rfl) ?_ (by assumption) ?_
              rotate_left
              · intro w' hSw; (try dsimp only at hSw); go_simp; try with_reducible rfl
              try simp only [Act.put, List.setIfInBounds_toArray, List.set_cons_zero, List.set_cons_succ]
              refine takeW (i := 9) (d := (some 126)) (v := ?_) rfl rfl (by kernel_rfl) (by kernel_rfl) (by kernel_rfl) (fun _ _ _ h => h) (by rfl) ?_ (by assumption) ?_
              rotate_left
              · intro w' hSw; (try dsimp only at hSw); go_simp; try with_reducible rfl
              try simp only [Act.put, List.setIfInBounds_toArray, List.set_cons_zero, List.set_cons_succ]
              refine takeW (i := 11) (d := (some 128)) (v := ?_) rfl rfl (by kernel_rfl) (by kernel_rfl) (by kernel_rfl) (fun _ _ _ h => h) (by rfl) ?_ (by assumption) ?_
              rotate_left
              · intro w' hSw; (try dsimp only at hSw); go_simp; try with_reducible rfl
              try simp only [Act.put, List.setIfInBounds_toArray, List.set_cons_zero, List.set_cons_succ]
              refine takeW (i := 12) (d := (some 129)) (v := ?_) rfl rfl (by kernel_rfl) (by kernel_rfl) (by kernel_rfl) (fun _ _ _ h => h) (by rfl) ?_ (by assumption) ?_
              rotate_left
              · intro w' hSw; (try dsimp only at hSw); go_simp; try with_reducible rfl
              try simp only [Act.put, List.setIfInBounds_toArray, List.set_cons_zero, List.set_cons_succ]
              refine takeW (i := 13) (d := (some 130)) (v := ?_) rfl rfl (by kernel_rfl) (by kernel_rfl) (by kernel_rfl) (fun _ _ _ h => h) (by rfl) ?_ (by assumption) ?_
              rotate_left
              · intro w' hSw; (try dsimp only at hSw); go_simp; try with_reducible rfl
              try simp only [Act.put, List.setIfInBounds_toArray, List.set_cons_zero, List.set_cons_succ]
              refine wpAnyH_ready (rs := [10, 14]) (by kernel_rfl) (by simp) ?_
              refine AllReadyH.cons rfl (fun K hK => ?_) (AllReadyH.cons rfl (fun K hK => ?_) AllReadyH.nil)
              · go_simp
                go_at_call 20
                (with_reducible refine (applied_any _ gi _ (HI12.out.keep q13.out (by simp))).mono ?_)
                rintro e w14 ⟨rfl, hw14⟩
                obtain rfl : w13 = w14 := hw14.symm
                go_wp2_with (fail)
                refine hK.out _ _ ?_ (fun hHeld => ?_)
                · trivial
                clear hK K
                try simp only [Act.put, List.setIfInBounds_toArray, List.set_cons_zero, List.set_cons_succ]
                refine wpAnyH_ready (rs := [14]) (by kernel_rfl) (by simp) ?_
                refine AllReadyH.cons rfl (fun K hK => ?_) AllReadyH.nil
                go_simp
                skip
                go_wp2_with (fail)
                refine hK.out _ _ ?_ (fun hHeld => ?_)
                · trivial
                clear hK K
                try simp only [Act.put, List.setIfInBounds_toArray, List.set_cons_zero, List.set_cons_succ]
                refine takeW (i := 15) (d := (some 132)) (v := ?_) rfl rfl (by kernel_rfl) (by kernel_rfl) (by kernel_rfl) (fun _ _ _ h => h) (by rfl) ?_ (by assumption) ?_
                rotate_left
                · intro w' hSw; (try dsimp only at hSw); go_simp; try with_reducible rfl
                try simp only [Act.put, List.setIfInBounds_toArray, List.set_cons_zero, List.set_cons_succ]
                refine takeW (i := 16) (d := (some 133)) (v := ?_) rfl rfl (by kernel_rfl) (by kernel_rfl) (by kernel_rfl) (fun _ _ _ h => h) (by rfl) ?_ (by assumption) ?_
                rotate_left
                · intro w' hSw; (try dsimp only at hSw); go_simp; try with_reducible rfl
                try simp only [Act.put, List.setIfInBounds_toArray, List.set_cons_zero, List.set_cons_succ]
                refine wpAnyH_done (by kernel_rfl) ?_ _
                have c13 : Hid (Chg [] w w13) := ((HC7.out.trans q11.out (by simp; omega)).trans q12.out (by simp; omega)).trans q13.out (by simp)
                have hI13 := Lib.hid (HI12.out.keep q13.out (by simp))
                have hX13 := Lib.hid (HX12.out.keep q13.out (by simp))
                have HOK2 := Lib.hid (doneI_ok HOK.out dv)
                go_wp2_with (fail)
                go_roundw
                case rel => exact ⟨k2 + 1, (doneI ⟨a, o, ap⟩ dv).k, by omega, by omega, by go_num, HOK2.out.k0, HOK2.out.k1, hI13.out, hX13.out, c13.out⟩
                case measure => simp [intOf]; omega
              · go_simp
                skip
                go_wp2_with (fail)
                refine hK.out _ _ ?_ (fun hHeld => ?_)
                · trivial
                clear hK K
                try simp only [Act.put, List.setIfInBounds_toArray, List.set_cons_zero, List.set_cons_succ]
                refine wpAnyH_ready (rs := [10]) (by kernel_rfl) (by simp) ?_
                refine AllReadyH.cons rfl (fun K hK => ?_) AllReadyH.nil
                go_simp
                go_at_call 20
                (with_reducible refine (applied_any _ gi _ (HI12.out.keep q13.out (by simp))).mono ?_)
                rintro e w14 ⟨rfl, hw14⟩
                obtain rfl : w13 = w14 := hw14.symm
                go_wp2_with (fail)
                refine hK.out _ _ ?_ (fun hHeld => ?_)
                · trivial
                clear hK K
                try simp only [Act.put, List.setIfInBounds_toArray, List.set_cons_zero, List.set_cons_succ]
                refine takeW (i := 15) (d := (some 132)) (v := ?_) rfl rfl (by kernel_rfl) (by kernel_rfl) (by kernel_rfl) (fun _ _ _ h => h) (by rfl) ?_ (by assumption) ?_
                rotate_left
                · intro w' hSw; (try dsimp only at hSw); go_simp; try with_reducible rfl
                try simp only [Act.put, List.setIfInBounds_toArray, List.set_cons_zero, List.set_cons_succ]
                refine takeW (i := 16) (d := (some 133)) (v := ?_) rfl rfl (by kernel_rfl) (by kernel_rfl) (by kernel_rfl) (fun _ _ _ h => h) (by rfl) ?_ (by assumption) ?_
                rotate_left
                · intro w' hSw; (try dsimp only at hSw); go_simp; try with_reducible rfl
                try simp only [Act.put, List.setIfInBounds_toArray, List.set_cons_zero, List.set_cons_succ]
                refine wpAnyH_done (by kernel_rfl) ?_ _
                have c13 : Hid (Chg [] w w13) := ((HC7.out.trans q11.out (by simp; omega)).trans q12.out (by simp; omega)).trans q13.out (by simp)
                have hI13 := Lib.hid (HI12.out.keep q13.out (by simp))
                have hX13 := Lib.hid (HX12.out.keep q13.out (by simp))
                have HOK2 := Lib.hid (doneI_ok HOK.out dv)
                go_wp2_with (fail)
                go_roundw
                case rel => exact ⟨k2 + 1, (doneI ⟨a, o, ap⟩ dv).k, by omega, by omega, by go_num, HOK2.out.k0, HOK2.out.k1, hI13.out, hX13.out, c13.out⟩
                case measure => simp [intOf]; omega
            · have hkdi : ¬ (k2 : Int) < (ds.length : Int) := by omega
              go_wp2_with (fail)
              have KX : Hid (∀ w', Chg [gi] w7 w' → At w' gx 37 (ISt.cells ⟨a, o, ap⟩)) := fun w' hc => HX7.out.keep hc (by simp; omega)
              have HAL : Hid (∀ x ∈ [((doneI ⟨a, o, ap⟩ (ap + (l6.length : Int))).a, (doneI ⟨a, o, ap⟩ (ap + (l6.length : Int))).o, ackB (doneI ⟨a, o, ap⟩ (ap + (l6.length : Int))).o (doneI ⟨a, o, ap⟩ (ap + (l6.length : Int))).k)], x.2.2.length ≤ 1000000) := fun x hx => by
                obtain rfl := List.mem_singleton.1 hx
                have h := doneI_ok HOK.out (ap + (l6.length : Int))
                exact ackB_len h.o0 h.o5 h.k0 h.k1
              have hgxw7 : gx < w7.heap.size := HX7.out.lt
              refine wp_region_held_drew (S := fun _ => True) (by kernel_rfl) trivial (fun hHeld => ?_)
              refine takeW (i := 0) (d := (some 117)) (v := ?_) rfl rfl (by kernel_rfl) (by kernel_rfl) (by kernel_rfl) (fun _ _ _ h => h) (by rfl) ?_ (by assumption) ?_
              rotate_left
              · intro w' hSw; (try dsimp only at hSw); go_simp; try with_reducible rfl
              try simp only [Act.put, List.setIfInBounds_toArray, List.set_cons_zero, List.set_cons_succ]
              refine takeW (i := 1) (d := (some 118)) (v := ?_) rfl rfl (by kernel_rfl) (by kernel_rfl) (by kernel_rfl) (fun _ _ _ h => h) (by rfl) ?_ (by assumption) ?_
              rotate_left
              · intro w' hSw; (try dsimp only at hSw); go_simp; try with_reducible rfl
              try simp only [Act.put, List.setIfInBounds_toArray, List.set_cons_zero, List.set_cons_succ]
              refine takeW (i := 3) (d := (some 120)) (v := ?_) rfl rfl (by kernel_rfl) (by kernel_rfl) (by kernel_rfl) (fun _ _ _ h => h) (by rfl) ?_ (by assumption) ?_
              rotate_left
              · intro w' hSw; (try dsimp only at hSw); go_simp; try with_reducible rfl
              try simp only [Act.put, List.setIfInBounds_toArray, List.set_cons_zero, List.set_cons_succ]
              refine takeW (i := 4) (d := (some 121)) (v := ?_) rfl rfl (by kernel_rfl) (by kernel_rfl) (by kernel_rfl) (fun _ _ _ h => h) (by rfl) ?_ (by assumption) ?_
              rotate_left
              · intro w' hSw; (try dsimp only at hSw); go_simp; try with_reducible rfl
              try simp only [Act.put, List.setIfInBounds_toArray, List.set_cons_zero, List.set_cons_succ]
              refine wpAnyH_ready (rs := [2]) (by kernel_rfl) (by simp) ?_
              refine AllReadyH.cons rfl (fun K hK => ?_) AllReadyH.nil
              go_simp
              go_at_call 18
              (with_reducible refine (done_any _ gi ⟨a, o, ap⟩ (KI.out _ (by repeat' (first | (with_reducible assumption) | (with_reducible exact Chg.refl _ _) | (with_reducible refine Chg.alloc ?_ _) | (with_reducible refine Chg.drewN ?_ _) | (with_reducible refine Chg.drew ?_) | (with_reducible refine Chg.strW ?_ _ _) | (with_reducible refine Chg.t0 ?_ (by with_reducible assumption))))) HOK.out (ap + (l6.length : Int))).mono ?_)
              rintro e w11 ⟨A11, c11, ms11, rfl, hm11, hn11, hI11, hch11⟩
              have q11 : Hid (Chg [gi] w7 w11) := (Chg.trans (by repeat' (first | (with_reducible assumption) | (with_reducible exact Chg.refl _ _) | (with_reducible refine Chg.alloc ?_ _) | (with_reducible refine Chg.drewN ?_ _) | (with_reducible refine Chg.drew ?_) | (with_reducible refine Chg.strW ?_ _ _) | (with_reducible refine Chg.t0 ?_ (by with_reducible assumption)))) hch11 (by simp) : Chg [gi] w7 w11)
              have HM11 := Lib.hid hm11
              have HI11 := Lib.hid hI11
              have HN11 : Hid (MsgsNew w7 A11 ms11) := hn11.of_le (Nat.le_refl _)
              clear hm11 hn11 hI11 hch11
              go_wp2_with (fail)
              refine hK.out _ _ ?_ (fun hHeld => ?_)
              · trivial
              clear hK K
              try simp only [Act.put, List.setIfInBounds_toArray, List.set_cons_zero, List.set_cons_succ]
              refine wpAnyH_ready (rs := [5]) (by kernel_rfl) (by simp) ?_
              refine AllReadyH.cons rfl (fun K hK => ?_) AllReadyH.nil
              go_simp
              go_at_call 19
              (with_reducible refine (refDone_any w11 gx ⟨a, o, ap⟩ (KX.out w11 q11.out) HOK.out (ap + (l6.length : Int))).mono ?_)
              rintro e w12 ⟨A12, c12, ms12, rfl, hm12, hX12, hch12⟩
              have HM12 := Lib.hid hm12
              have HX12 := Lib.hid hX12
              have HI12 : Hid (At w12 gi 84 (doneI ⟨a, o, ap⟩ (ap + (l6.length : Int))).cells) := HI11.out.keep hch12 (by simp; omega)
              have q12 := Lib.hid hch12
              have HM11b := Lib.hid (HM11.out.keepS HN11.out hch12 (by simp; omega))
              clear hm12 hX12 hch12
              go_wp2_with (fail)
              refine hK.out _ _ ?_ (fun hHeld => ?_)
              · trivial
              clear hK K
              try simp only [Act.put, List.setIfInBounds_toArray, List.set_cons_zero, List.set_cons_succ]
              refine wpAnyH_ready (rs := [6]) (by kernel_rfl) (by simp) ?_
              refine AllReadyH.cons rfl (fun K hK => ?_) AllReadyH.nil
              go_simp
              go_at_call 17
              (with_reducible refine (messages_yes w12 A11 A12 _ _ c11 c12 ms11 ms12 _ rfl rfl HM11b.out HM12.out (by simp) HAL.out).mono ?_)
              rintro e w13 ⟨rfl, hch13⟩
              have q13 := Lib.hid hch13
              have cx2 := (HX12.out.keep hch13 (by simp)).i3.2.2
              clear hch13
              go_wp2_with (fail)
              refine hK.out _ _ ?_ (fun hHeld => ?_)
              · trivial
              clear hK K
              try simp only [Act.put, List.setIfInBounds_toArray, List.set_cons_zero, List.set_cons_succ]
              refine takeW (i := 7) (d := (some 124)) (v := ?_) rfl rfl (by kernel_rfl) (by kernel_rfl) (by kernel_rfl) (fun _ _ _ h => h) (by rfl) ?_ (by assumption) ?_
              rotate_left
              · intro w' hSw; (try dsimp only at hSw); go_simp; try with_reducible rfl
              try simp only [Act.put, List.setIfInBounds_toArray, List.set_cons_zero, List.set_cons_succ]
              refine takeW (i := 8) (d := (some 125)) (v := ?_) rfl rfl (by kernel_rfl) (by kernel_rfl) (by kernel_rfl) (fun _ _ _ h => h) (by rfl) ?_ (by assumption) ?_
              rotate_left
              · intro w' hSw; (try dsimp only at hSw); go_simp; try with_reducible rfl
              try simp only [Act.put, List.setIfInBounds_toArray, List.set_cons_zero, List.set_cons_succ]
              refine takeW (i := 9) (d := (some 126)) (v := ?_) rfl rfl (by kernel_rfl) (by kernel_rfl) (by kernel_rfl) (fun _ _ _ h => h) (by rfl) ?_ (by assumption) ?_
              rotate_left
              · intro w' hSw; (try dsimp only at hSw); go_simp; try with_reducible rfl
              try simp only [Act.put, List.setIfInBounds_toArray, List.set_cons_zero, List.set_cons_succ]
              refine takeW (i := 11) (d := (some 128)) (v := ?_) rfl rfl (by kernel_rfl) (by kernel_rfl) (by kernel_rfl) (fun _ _ _ h => h) (by rfl) ?_ (by assumption) ?_
              rotate_left
              · intro w' hSw; (try dsimp only at hSw); go_simp; try with_reducible rfl
              try simp only [Act.put, List.setIfInBounds_toArray, List.set_cons_zero, List.set_cons_succ]
              refine takeW (i := 12) (d := (some 129)) (v := ?_) rfl rfl (by kernel_rfl) (by kernel_rfl) (by kernel_rfl) (fun _ _ _ h => h) (by rfl) ?_ (by assumption) ?_
              rotate_left
              · intro w' hSw; (try dsimp only at hSw); go_simp; try with_reducible rfl
              try simp only [Act.put, List.setIfInBounds_toArray, List.set_cons_zero, List.set_cons_succ]
              refine takeW (i := 13) (d := (some 130)) (v := ?_) rfl rfl (by kernel_rfl) (by kernel_rfl) (by kernel_rfl) (fun _ _ _ h => h) (by rfl) ?_ (by assumption) ?_
              rotate_left
              · intro w' hSw; (try dsimp only at hSw); go_simp; try with_reducible rfl
              try simp only [Act.put, List.setIfInBounds_toArray, List.set_cons_zero, List.set_cons_succ]
              refine wpAnyH_ready (rs := [10, 14]) (by kernel_rfl) (by simp) ?_
              refine AllReadyH.cons rfl (fun K hK => ?_) (AllReadyH.cons rfl (fun K hK => ?_) AllReadyH.nil)
              · go_simp
                go_at_call 20
                (with_reducible refine (applied_any _ gi _ (HI12.out.keep q13.out (by simp))).mono ?_)
                rintro e w14 ⟨rfl, hw14⟩
                obtain rfl : w13 = w14 := hw14.symm
                go_wp2_with (fail)
                refine hK.out _ _ ?_ (fun hHeld => ?_)
                · trivial
                clear hK K
                try simp only [Act.put, List.setIfInBounds_toArray, List.set_cons_zero, List.set_cons_succ]
                refine wpAnyH_ready (rs := [14]) (by kernel_rfl) (by simp) ?_
                refine AllReadyH.cons rfl (fun K hK => ?_) AllReadyH.nil
                go_simp
                skip
                go_wp2_with (fail)
                refine hK.out _ _ ?_ (fun hHeld => ?_)
                · trivial
                clear hK K
                try simp only [Act.put, List.setIfInBounds_toArray, List.set_cons_zero, List.set_cons_succ]
                refine takeW (i := 15) (d := (some 132)) (v := ?_) rfl rfl (by kernel_rfl) (by kernel_rfl) (by kernel_rfl) (fun _ _ _ h => h) (by rfl) ?_ (by assumption) ?_
                rotate_left
                · intro w' hSw; (try dsimp only at hSw); go_simp; try with_reducible rfl
                try simp only [Act.put, List.setIfInBounds_toArray, List.set_cons_zero, List.set_cons_succ]
                refine takeW (i := 16) (d := (some 133)) (v := ?_) rfl rfl (by kernel_rfl) (by kernel_rfl) (by kernel_rfl) (fun _ _ _ h => h) (by rfl) ?_ (by assumption) ?_
                rotate_left
                · intro w' hSw; (try dsimp only at hSw); go_simp; try with_reducible rfl
                try simp only [Act.put, List.setIfInBounds_toArray, List.set_cons_zero, List.set_cons_succ]
                refine wpAnyH_done (by kernel_rfl) ?_ _
                have c13 : Hid (Chg [] w w13) := ((HC7.out.trans q11.out (by simp; omega)).trans q12.out (by simp; omega)).trans q13.out (by simp)
                have hI13 := Lib.hid (HI12.out.keep q13.out (by simp))
                have hX13 := Lib.hid (HX12.out.keep q13.out (by simp))
                have HOK2 := Lib.hid (doneI_ok HOK.out (ap + (l6.length : Int)))
                go_wp2_with (fail)
                go_roundw
                case rel => exact ⟨k2 + 1, (doneI ⟨a, o, ap⟩ (ap + (l6.length : Int))).k, by omega, by omega, by go_num, HOK2.out.k0, HOK2.out.k1, hI13.out, hX13.out, c13.out⟩
                case measure => simp [intOf]; omega
              · go_simp
                skip
                go_wp2_with (fail)
                refine hK.out _ _ ?_ (fun hHeld => ?_)
                · trivial
                clear hK K
                try simp only [Act.put, List.setIfInBounds_toArray, List.set_cons_zero, List.set_cons_succ]
                refine wpAnyH_ready (rs := [10]) (by kernel_rfl) (by simp) ?_
                refine AllReadyH.cons rfl (fun K hK => ?_) AllReadyH.nil
                go_simp
                go_at_call 20
                (with_reducible refine (applied_any _ gi _ (HI12.out.keep q13.out (by simp))).mono ?_)
                rintro e w14 ⟨rfl, hw14⟩
                obtain rfl : w13 = w14 := hw14.symm
                go_wp2_with (fail)
                refine hK.out _ _ ?_ (fun hHeld => ?_)
                · trivial
                clear hK K
                try simp only [Act.put, List.setIfInBounds_toArray, List.set_cons_zero, List.set_cons_succ]
                refine takeW (i := 15) (d := (some 132)) (v := ?_) rfl rfl (by kernel_rfl) (by kernel_rfl) (by kernel_rfl) (fun _ _ _ h => h) (by rfl) ?_ (by assumption) ?_
                rotate_left
                · intro w' hSw; (try dsimp only at hSw); go_simp; try with_reducible rfl
                try simp only [Act.put, List.setIfInBounds_toArray, List.set_cons_zero, List.set_cons_succ]
                refine takeW (i := 16) (d := (some 133)) (v := ?_) rfl rfl (by kernel_rfl) (by kernel_rfl) (by kernel_rfl) (fun _ _ _ h => h) (by rfl) ?_ (by assumption) ?_
                rotate_left
                · intro w' hSw; (try dsimp only at hSw); go_simp; try with_reducible rfl
                try simp only [Act.put, List.setIfInBounds_toArray, List.set_cons_zero, List.set_cons_succ]
                refine wpAnyH_done (by kernel_rfl) ?_ _
                have c13 : Hid (Chg [] w w13) := ((HC7.out.trans q11.out (by simp; omega)).trans q12.out (by simp; omega)).trans q13.out (by simp)
                have hI13 := Lib.hid (HI12.out.keep q13.out (by simp))
                have hX13 := Lib.hid (HX12.out.keep q13.out (by simp))
                have HOK2 := Lib.hid (doneI_ok HOK.out (ap + (l6.length : Int)))
                go_wp2_with (fail)
                go_roundw
                case rel => exact ⟨k2 + 1, (doneI ⟨a, o, ap⟩ (ap + (l6.length : Int))).k, by omega, by omega, by go_num, HOK2.out.k0, HOK2.out.k1, hI13.out, hX13.out, c13.out⟩
                case measure => simp [intOf]; omega
          · by_cases h1 : k2 < ls.length
            · have h2 : ¬ (k2 : Int) < 40 := by omega
              have h1i : (k2 : Int) < (ls.length : Int) := by omega
              go_wp2_with (go_at_call 11; (with_reducible refine (knownL_any _).mono ?_); rintro e w9 ⟨rfl, hch9⟩)
              go_ret
              exact ⟨rfl, HC2.out.trans hch9 (by simp)⟩
            · have h1i : ¬ (k2 : Int) < (ls.length : Int) := by omega
              go_wp2_with (go_at_call 11; (with_reducible refine (knownL_any _).mono ?_); rintro e w9 ⟨rfl, hch9⟩)
              go_ret
              exact ⟨rfl, HC2.out.trans hch9 (by simp)⟩
end Go.Proofs.Ytdfkednggjelcaa
