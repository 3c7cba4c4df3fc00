
/-
  StreamSends: the walk of the law.
-/
import Derived.Test.YtdfkednggjelcaaStrO
import Derived.Test.YtdfkednggjelcaaStrTk
import Derived.Test.YtdfkednggjelcaaOpenT
import Derived.Test.YtdfkednggjelcaaMask
import Derived.BigQuiet
import Derived.Deep.DeepCutAuto
import Derived.Deep.CutBlock
namespace Go.Proofs.Ytdfkednggjelcaa
open Go.RowKit
set_option linter.unusedVariables false
attribute [local go_sem ↓] run_min2 run_max2

theorem ackedQ (w : World) (g : Nat) (o : OSt) (h : At w g 95 o.cells) :
    Calls Try.prog 34 #[.pointer (some ⟨g, 0, none⟩)] w fun e w' => e = .returned (.int .i64 o.k) ∧ w = w' :=
  (acked_any w g o h).mono fun e w' h => ⟨h.1, h.2.symm⟩
theorem sendO_cases (o : OSt) (l : List Rc) : (sendO o l).2.2 = o ∧ (sendO o l).1 = [] ∨ (okL o.a l = true ∧ ¬ 8 < l.length ∧ 0 < l.length ∧ ∃ f, (∀ i (h : i < l.length), l[i].q = f + i) ∧ ¬ f ≤ o.k ∧ ¬ o.n + 1 < f ∧ sendO o l = (encF (bodyW ⟨1, o.a, f, 0, 0, 0, 0, l⟩), 0, { o with n := max o.n (f + l.length - 1), t := 0 })) := by
  cases l with
  | nil => exact .inl ⟨rfl, rfl⟩
  | cons r l =>
    rw [sendO_cons]
    by_cases h1 : okL o.a (r :: l) = false
    · rw [if_pos h1]; exact .inl ⟨rfl, rfl⟩
    by_cases h2 : 8 < (r :: l).length
    · rw [if_neg h1, if_pos h2]; exact .inl ⟨rfl, rfl⟩
    by_cases h3 : conL r.q (r :: l) = false
    · rw [if_neg h1, if_neg h2, if_pos h3]; exact .inl ⟨rfl, rfl⟩
    by_cases h4 : r.q ≤ o.k ∨ o.n + 1 < r.q
    · rw [if_neg h1, if_neg h2, if_neg h3, if_pos h4]; exact .inl ⟨rfl, rfl⟩
    · rw [if_neg h1, if_neg h2, if_neg h3, if_neg h4]
      refine .inr ⟨by simpa using h1, h2, by simp, r.q, conL_iff.1 (by simpa using h3), by omega, by omega, rfl⟩
theorem sendO_ok {o : OSt} (ho : o.Ok) (l : List Rc) : (sendO o l).2.2.Ok := by
  rcases sendO_cases o l with ⟨h, _⟩ | ⟨h1, h2, h3, f, hf, h4, h5, h⟩
  · rw [h]; exact ho
  · obtain ⟨g1, g2, g3, g4, g5, g6, g7, g8, g9⟩ := ho
    have hlast := isR_iff.1 (okL_iff.1 h1 l[l.length - 1] (List.getElem_mem (by omega))).1
    have hq := hf (l.length - 1) (by omega)
    have hq2 := hlast.q2
    rw [hq] at hq2
    have hm : max o.n (f + (l.length : Int) - 1) ≤ 1099511627776 := by omega
    rw [h]
    exact ⟨g1, g2, g3, g4, g5, by show o.k ≤ max o.n _; omega, hm, Int.le_refl _, by show (0 : Int) ≤ _; omega⟩
theorem sendO_t {o : OSt} {k : Int} (hk : 0 ≤ k) (ht : o.t ≤ k) (l : List Rc) : (sendO o l).2.2.t ≤ k + 1 := by
  rcases sendO_cases o l with ⟨h, _⟩ | ⟨h1, h2, h3, f, hf, h4, h5, h⟩
  · rw [h]; omega
  · rw [h]; show (0 : Int) ≤ _; omega
theorem sendO_ab (o : OSt) (l : List Rc) : (sendO o l).2.2.a = o.a ∧ (sendO o l).2.2.b = o.b := by
  rcases sendO_cases o l with ⟨h, _⟩ | ⟨h1, h2, h3, f, hf, h4, h5, h⟩
  · rw [h]; exact ⟨rfl, rfl⟩
  · rw [h]; exact ⟨rfl, rfl⟩
theorem tickO_ok {o : OSt} (ho : o.Ok) (ht : o.t ≤ 150) : (tickO o).Ok := by
  obtain ⟨g1, g2, g3, g4, g5, g6, g7, g8, g9⟩ := ho
  unfold tickO
  split
  · exact ⟨g1, g2, g3, g4, g5, g6, g7, by show 0 ≤ o.t + 1; omega, by show o.t + 1 ≤ _; omega⟩
  · exact ⟨g1, g2, g3, g4, g5, g6, g7, g8, g9⟩
theorem tickO_t {o : OSt} {k : Int} (ht : o.t ≤ k) : (tickO o).t ≤ k + 1 := by
  unfold tickO
  split
  · show o.t + 1 ≤ _; omega
  · omega
theorem tickO_ab (o : OSt) : (tickO o).a = o.a ∧ (tickO o).b = o.b := by unfold tickO; split <;> exact ⟨rfl, rfl⟩
theorem ackO_ok {o : OSt} (ho : o.Ok) (s : Int) : (ackO o s).2.Ok := by
  obtain ⟨g1, g2, g3, g4, g5, g6, g7, g8, g9⟩ := ho
  unfold ackO
  split
  · exact ⟨g1, g2, g3, g4, g5, g6, g7, g8, g9⟩
  · rename_i h
    exact ⟨g1, g2, g3, g4, by show 0 ≤ s; omega, by show s ≤ o.n; omega, g7, Int.le_refl _, by show (0 : Int) ≤ _; omega⟩
theorem ackO_t {o : OSt} {k : Int} (hk : 0 ≤ k) (ht : o.t ≤ k) (s : Int) : (ackO o s).2.t ≤ k + 1 := by
  unfold ackO
  split
  · show o.t ≤ _; omega
  · show (0 : Int) ≤ _; omega
theorem ackO_ab (o : OSt) (s : Int) : (ackO o s).2.a = o.a ∧ (ackO o s).2.b = o.b := by unfold ackO; split <;> exact ⟨rfl, rfl⟩
theorem needO_bounds {o : OSt} (ho : o.Ok) {N c : Int} (h : needO o N = (c, true)) : 1 ≤ c ∧ c ≤ 1099511627777 ∧ c ≤ N := by
  obtain ⟨g1, g2, g3, g4, g5, g6, g7, g8, g9⟩ := ho
  unfold needO at h
  split at h
  · simp only [Prod.mk.injEq, and_true] at h; omega
  · split at h
    · simp only [Prod.mk.injEq, and_true] at h; omega
    · simp at h
theorem and15m (v : Int) : ∃ m : Nat, bits .and .i64 v 15 = (m : Int) ∧ m ≤ 15 := by
  have h : (BitVec.ofInt 64 v &&& BitVec.ofInt 64 15).toNat ≤ 15 := by
    rw [BitVec.toNat_and]
    refine Nat.le_trans Nat.and_le_right ?_
    decide
  refine ⟨_, ?_, h⟩
  show IntKind.i64.wrap ((BitVec.ofInt 64 v &&& BitVec.ofInt 64 15).toNat : Int) = _
  rw [IntKind.wrap_i64]
  omega
theorem sentM_len (a b : Int) (r : List UInt8 × Nat × OSt) : (sentM a b r).length ≤ 1000000 := by
  unfold sentM; split <;> simp
theorem sentM_d {o : OSt} {a b : Int} (ho : o.Ok) {l : List Rc} : ∀ x ∈ sentM a b (sendO o l), x.2.2.length ≤ 1000000 := by
  intro x hx
  have hl : (sendO o l).1.length ≤ 1000000 := by
    rcases sendO_cases o l with ⟨_, h⟩ | ⟨h1, h2, h3, f, hf, h4, h5, h⟩
    · rw [h]; simp
    · have hb := bodyW_len (isW_send ho.a0 ho.a5 h1 h2 h3 hf)
      rw [h]
      simp only
      rw [encF_len]
      omega
  unfold sentM at hx
  split at hx
  · obtain rfl := List.mem_singleton.1 hx; exact hl
  · cases hx

set_option maxRecDepth 100000 in
set_option maxHeartbeats 16000000 in
theorem streamSends_law (w : World) (a : Int) (ha : (Lit.int .i64 a).wf = true) (o : Int) (ho : (Lit.int .i64 o).wf = true) (q : Int) (hq : (Lit.int .i64 q).wf = true)
    (x : Sl TAct) (hx : Rd w 4 x.A x.ls.length (x.ls.flatMap TAct.cells) ∧ x.ls.length ≤ x.c ∧ x.c ≤ maxLen ∧ x.ls.length * 48 ≤ 140737488351232 ∧ ∀ s ∈ x.ls, s.In w) :
    Calls Try.prog 7 #[.int .i64 a, .int .i64 o, .int .i64 q, .slice x.A x.ls.length x.c] w fun e w' => e = .returned (.bool true) ∧ Chg [] w w' := by
  obtain ⟨i1, hi1, hy0, hy1, hy2⟩ := info_parts info_rec
  obtain ⟨A, c, ls⟩ := x
  obtain ⟨rx, hxc, _, hxl, hxs⟩ := hx
  simp only at rx hxc hxl hxs ⊢
  have RX : Hid (Rd w 4 A ls.length (cTA ls)) := rx
  have HXS : Hid (∀ s ∈ ls, Rd w 9 s.A s.ls.length (cRc s.ls) ∧ s.ls.length ≤ 140737488351232 ∧ (∀ r ∈ s.ls, Rd w 1 r.A r.r.val.length (cB r.r.val) ∧ r.r.key.length ≤ 140737488351232 ∧ r.r.val.length ≤ 140737488351232) ∧ -9223372036854775808 ≤ s.n ∧ s.n ≤ 9223372036854775807) := fun s hs => by
    obtain ⟨h1, h2, h3, h4, h5, h6, h7⟩ := hxs s hs
    exact ⟨h1, by omega, fun r hr => ⟨(h5 r hr).rd, (h5 r hr).kl, (h5 r hr).vl⟩, h6, h7⟩
  clear rx hxs ha ho hq
  go_enter Try.func7, Try.ntmps7
  go_upto_block 0 with (fail)
  go_cut [] (fun wx => Hid (∀ j (h : j < ls.length), j < 150 → ls[j].ls.length ≤ 400) ∧ Hid (Chg [] w wx))
  case first =>
    go_wp2_with (fail)
    go_loopw [10, 9] (fun i m wr => ∃ k x : Nat, k ≤ ls.length ∧ k ≤ 150 ∧ i = .int .i64 k ∧ m = .int .i64 x ∧ x ≤ 21 ∧ Hid (∀ j (h : j < ls.length), j < k → ls[j].ls.length ≤ 400) ∧ Hid (Chg [] w wr)) (fun i _ _ => ls.length - (intOf i).toNat)
    case atStart => exact ⟨0, 0, Nat.zero_le _, by omega, rfl, rfl, by omega, (by intro j h hj; omega), Chg.refl _ _⟩
    case round =>
      obtain ⟨k, x, hk, hk150, rfl, rfl, hx, HS, hch⟩ := hrel
      by_cases hlt : k < ls.length ∧ k < 150
      · obtain ⟨hlt, hk4⟩ := hlt
        obtain ⟨ad, rfl, had, -, -, -, hc3⟩ := (RX.out.keep0 hch.out).getTA hlt
        obtain ⟨r9, r8, r7, -, -⟩ := HXS.out _ (List.getElem_mem hlt)
        have HT : Hid (ls[k].ls.length ≤ 400 → ∀ j (h : j < ls.length), j < k + 1 → ls[j].ls.length ≤ 400) := fun h1 j h hj => by
          by_cases e : j = k
          · subst e; exact h1
          · exact HS.out j h (by omega)
        generalize ls[k] = s at *
        obtain ⟨kd, N, M, sA, sl, sc⟩ := s
        simp only at r9 r8 r7 HT hc3
        clear HS
        have R9 := Lib.hid r9
        have R7 := Lib.hid r7
        clear r9 r7
        have hki : (k : Int) < (ls.length : Int) := by omega
        have hk4i : (k : Int) < 150 := by omega
        go_wp2_with (fail)
        refine (heavyL_any wr sA _ sc sl rfl (R9.out.keep0 hch.out) r8 (fun r hr => ⟨(R7.out r hr).2.1, (R7.out r hr).2.2⟩)).mono ?_
        rintro e w1 ⟨hv, rfl, hlight, hch1⟩
        have hc1 : Hid (Chg [] w w1) := hch.out.trans hch1 (by simp)
        have hcw := (hch1.cell (p := ⟨(ad.add (k * 4)).block, (ad.add (k * 4)).off + 3, none⟩) (by show (ad.add (k * 4)).block < _; rw [add_block]; exact had) (by simp)).trans hc3
        clear hch1 hch hc3
        cases hv
        rotate_left
        · go_wp2_with (go_at_call 11; (with_reducible refine (knownL_any _).mono ?_); rintro e w9 ⟨rfl, hch9⟩)
          go_ret
          exact ⟨rfl, hc1.out.trans hch9 (by simp)⟩
        have hl400 := hlight rfl
        have hsl : sl.length ≤ 400 := by omega
        clear hlight hl400
        by_cases h4 : 20 < x
        · have h4i : (20 : Int) < (x : Int) := by omega
          go_wp2_with (go_at_call 11; (with_reducible refine (knownL_any _).mono ?_); rintro e w9 ⟨rfl, hch9⟩)
          go_ret
          exact ⟨rfl, hc1.out.trans hch9 (by simp)⟩
        · have h4i : ¬ (20 : Int) < (x : Int) := by omega
          have HT2 := Lib.hid (HT.out hsl)
          clear HT
          by_cases hz : 0 < sl.length
          · have hzi : (0 : Int) < (sl.length : Int) := by omega
            have hzb : decide (0 < sl.length) = true := decide_eq_true hz
            go_wp2_with (fail)
            go_roundw
            case rel => exact ⟨k + 1, x + 1, by omega, by omega, by go_num, by go_num, by omega, HT2.out, hc1⟩
            case measure => simp [intOf]; omega
          · have hzi : ¬ (0 : Int) < (sl.length : Int) := by omega
            have hzb : decide (0 < sl.length) = false := decide_eq_false hz
            go_wp2_with (fail)
            go_roundw
            case rel => exact ⟨k + 1, x, by omega, by omega, by go_num, by go_num, by omega, HT2.out, hc1⟩
            case measure => simp [intOf]; omega
      · have HS4 : Hid (∀ j (h : j < ls.length), j < 150 → ls[j].ls.length ≤ 400) := fun j h hj => HS.out j h (by omega)
        clear HS
        by_cases h1 : k < ls.length
        · have h2 : ¬ (k : Int) < 150 := by omega
          have h1i : (k : Int) < (ls.length : Int) := by omega
          go_wp2_with (fail)
          go_meet
          case rel => exact ⟨HS4, hch⟩
        · have h1i : ¬ (k : Int) < (ls.length : Int) := by omega
          go_wp2_with (fail)
          go_meet
          case rel => exact ⟨HS4, hch⟩
  case rest =>
    obtain ⟨HS4, hch⟩ := hcut
    go_wp2_with (fail)
    obtain ⟨s, hs⟩ : ∃ s, Hid (isWayS a o q = s) := ⟨_, rfl⟩
    cases s
    · refine (newOut_no _ _ _ _ hs.out).mono ?_
      rintro e w1 ⟨rfl, rfl⟩
      go_wp2_with (fail)
      refine (refNewOut_no _ _ _ _ hs.out).mono ?_
      rintro e w1 ⟨rfl, rfl⟩
      go_wp2_with (go_at_call 11; (with_reducible refine (knownL_any _).mono ?_); rintro e w9 ⟨rfl, hch9⟩)
      go_ret
      exact ⟨rfl, hch.out.trans hch9 (by simp)⟩
    obtain ⟨a0, a5, o0, o5, _, q0, q1⟩ := isWayS_iff.1 hs.out
    refine (newOut_yes _ _ _ _ hs.out).mono ?_
    rintro e w1 ⟨gi, rfl, hgi, hI1, hch1⟩
    have hgi1 := hI1.lt
    go_wp2_with (fail)
    refine (refNewOut_yes _ _ _ _ hs.out).mono ?_
    rintro e w2 ⟨gx, rfl, hgx, hX2, hch2⟩
    have hI2 := hI1.keep hch2 (by simp)
    have hc2 : Hid (Chg [] w w2) := (hch.out.trans hch1 (by simp)).trans hch2 (by simp)
    have hsw := hch.out.size
    have hgiw : w.heap.size ≤ gi := by omega
    have hgxw : w.heap.size ≤ gx := by have := hch1.size; omega
    have hgne : gi < gx := by omega
    clear hI1 hch1 hch2 hch hgi hgx hgi1
    go_wp2_with (fail)
    go_loopw [15] (fun i wr => ∃ (k : Nat) (ou : OSt), k ≤ ls.length ∧ k ≤ 150 ∧ i = .int .i64 k ∧ ou.Ok ∧ ou.t ≤ (k : Int) ∧ ou.a = a ∧ ou.b = o ∧ Hid (At wr gi 95 ou.cells) ∧ Hid (At wr gx 78 ou.cells) ∧ Hid (Chg [] w wr)) (fun i _ => ls.length - (intOf i).toNat)
    case atStart => exact ⟨0, ⟨a, o, q, q, 0⟩, Nat.zero_le _, by omega, rfl, ⟨a0, a5, o0, o5, q0, Int.le_refl _, q1, Int.le_refl _, by show (0 : Int) ≤ _; omega⟩, Int.le_refl _, rfl, rfl, hI2, hX2, hc2⟩
    case round =>
      clear hI2 hX2 hc2
      obtain ⟨k2, ⟨oa, ob, ok, on, ot⟩, hk2, hk152, rfl, HOK, ht, hoa, hob, HI, HX, HC2⟩ := hrel
      simp only at ht hoa hob
      by_cases hlt2 : k2 < ls.length ∧ k2 < 150
      · obtain ⟨hlt2, hk150b⟩ := hlt2
        obtain ⟨ad, rfl, had, hc0, hc1, hc2, hc3⟩ := (RX.out.keep0 HC2.out).getTA hlt2
        obtain ⟨r9, r8, r7, hn0, hn1⟩ := HXS.out _ (List.getElem_mem hlt2)
        have hs400 := HS4.out k2 hlt2 hk150b
        generalize ls[k2] = s at *
        obtain ⟨kd, N, M, sA, sl, sc⟩ := s
        simp only at r9 r8 r7 hc0 hc1 hc2 hc3 hs400 hn0 hn1
        have R9 := Lib.hid r9
        have R7 := Lib.hid r7
        clear r9 r7
        have hki2 : (k2 : Int) < (ls.length : Int) := by omega
        have hk150i2 : (k2 : Int) < 150 := by omega
        have HSz0 := At.new wr 71 #[.int .i64 kd, .int .i64 N, .int .i64 M, .slice sA sl.length sc]
        have HOz0 := HI.out.al (.cells #[.int .i64 kd, .int .i64 N, .int .i64 M, .slice sA sl.length sc] 71)
        have HXz0 := HX.out.al (.cells #[.int .i64 kd, .int .i64 N, .int .i64 M, .slice sA sl.length sc] 71)
        have HCz0 : Chg [] w (wr.alloc (.cells #[.int .i64 kd, .int .i64 N, .int .i64 M, .slice sA sl.length sc] 71)) := HC2.out.alloc _
        have hgiwr := HI.out.lt
        have hgxwr := HX.out.lt
        have hswr := HC2.out.size
        have KL0 : ∀ w', Chg [gi, gx] (wr.alloc (.cells #[.int .i64 kd, .int .i64 N, .int .i64 M, .slice sA sl.length sc] 71)) w' → Rd w' 9 sA sl.length (cRc sl) ∧ ∀ x ∈ sl, Rd w' 1 x.A x.r.val.length (cB x.r.val) := fun w' hc =>
          ⟨R9.out.keep0 (HCz0.trans hc (by simp; omega)), fun x hx => (R7.out x hx).1.keep0 (HCz0.trans hc (by simp; omega))⟩
        go_upto_region 19 with (fail)
        have HSz := Lib.hid HSz0
        have HOz := Lib.hid HOz0
        have HXz := Lib.hid HXz0
        have HCz := Lib.hid HCz0
        have KL := Lib.hid KL0
        clear HSz0 HOz0 HXz0 HCz0 KL0 hc0 hc1 hc2 hc3 HI HX HC2
        generalize hgs : wr.heap.size = gs at *
        have hgsi : gi < gs := by omega
        have hgsx : gx < gs := by omega
        generalize wr.alloc (.cells #[.int .i64 kd, .int .i64 N, .int .i64 M, .slice sA sl.length sc] 71) = wz at *
        have s0 : wz.cell? ⟨gs, 0, none⟩ = some (.int .i64 kd) := (HSz.out.cell 0)
        have s1 : wz.cell? ⟨gs, 1, none⟩ = some (.int .i64 N) := (HSz.out.cell 1)
        have s2 : wz.cell? ⟨gs, 2, none⟩ = some (.int .i64 M) := (HSz.out.cell 2)
        have s3 := (HSz.out.cell 3)
        simp only [List.getElem?_toArray, List.getElem?_cons_zero, List.getElem?_cons_succ] at s3
        by_cases h6 : kd = 6
        · subst h6
          obtain ⟨nc, nd, hnd⟩ : ∃ nc nd, needO ⟨oa, ob, ok, on, ot⟩ N = (nc, nd) := ⟨_, _, rfl⟩
          have HND := Lib.hid hnd
          go_wp2_with (fail)
          refine (need_any wz gi ⟨oa, ob, ok, on, ot⟩ HOz.out HOK N).mono ?_
          rw [hnd]
          rintro e w5 ⟨rfl, hch5⟩
          have hX5 := HXz.out.keep hch5 (by simp)
          have hO5 := HOz.out.keep hch5 (by simp)
          have hS5 := HSz.out.keep hch5 (by simp)
          have HC5 : Hid (Chg [] w w5) := HCz.out.trans hch5 (by simp)
          have hc5 := Lib.hid hch5
          clear s0 s1 s2 s3 hch5
          have s0 : w5.cell? ⟨gs, 0, none⟩ = some (.int .i64 6) := (hS5.cell 0)
          have s1 : w5.cell? ⟨gs, 1, none⟩ = some (.int .i64 N) := (hS5.cell 1)
          have s2 : w5.cell? ⟨gs, 2, none⟩ = some (.int .i64 M) := (hS5.cell 2)
          have s3 := (hS5.cell 3)
          simp only [List.getElem?_toArray, List.getElem?_cons_zero, List.getElem?_cons_succ] at s3
          simp only
          go_wp2_with (fail)
          refine (refNeed_any w5 gx ⟨oa, ob, ok, on, ot⟩ hX5 HOK N).mono ?_
          rw [hnd]
          rintro e w6 ⟨rfl, hch6⟩
          have HO6 := Lib.hid (hO5.keep hch6 (by simp))
          have HX6 := Lib.hid (hX5.keep hch6 (by simp))
          have HS6 := Lib.hid (hS5.keep hch6 (by simp))
          have HC6 : Hid (Chg [] w w6) := HC5.out.trans hch6 (by simp)
          have hc6 := Lib.hid (hc5.out.trans hch6 (by simp))
          clear s0 s1 s2 s3 hX5 hO5 hS5 hch6 hnd
          have s0 : w6.cell? ⟨gs, 0, none⟩ = some (.int .i64 6) := (HS6.out.cell 0)
          have s1 : w6.cell? ⟨gs, 1, none⟩ = some (.int .i64 N) := (HS6.out.cell 1)
          have s2 : w6.cell? ⟨gs, 2, none⟩ = some (.int .i64 M) := (HS6.out.cell 2)
          have s3 := (HS6.out.cell 3)
          simp only [List.getElem?_toArray, List.getElem?_cons_zero, List.getElem?_cons_succ] at s3
          simp only
          cases nd
          · by_cases hz : sl.length = 0
            · have hzi : ¬ (0 : Int) < (sl.length : Int) := by omega
              have hzb : decide ((0 : Int) < (sl.length : Int)) = false := decide_eq_false hzi
              have HZ := Lib.hid hz
              clear hz
              go_wp2_with (fail)
              have cxk := HX6.out.o5.2.2.1
              go_quiet ((first | (go_at_call 34; first | exact quiet_left (ackedQ _ gi ⟨oa, ob, ok, on, ot⟩ (HO6.out.keep ((Chg.refl [] _).drewN _) (by simp))) | exact quiet_left2 (ackedQ _ gi ⟨oa, ob, ok, on, ot⟩ (HO6.out.keep ((Chg.refl [] _).drewN _) (by simp))))))
              go_wp2_with (fail)
              go_roundw
              case rel => exact ⟨k2 + 1, ⟨oa, ob, ok, on, ot⟩, by omega, by omega, by go_num, HOK, by show ot ≤ ((k2 + 1 : Nat) : Int); omega, hoa, hob, (by first | exact HO6.out | exact HO6.out.keep ((Chg.refl [] _).drewN _) (by simp)), (by first | exact HX6.out | exact HX6.out.keep ((Chg.refl [] _).drewN _) (by simp)), (by first | exact HC6.out | exact HC6.out.drewN _)⟩
              case measure => simp [intOf]; omega
            · have hzi : (0 : Int) < (sl.length : Int) := by omega
              have hzb : decide ((0 : Int) < (sl.length : Int)) = true := decide_eq_true hzi
              have KL6 : Hid (∀ w', Chg [gi, gx] w6 w' → Rd w' 9 sA sl.length (cRc sl) ∧ ∀ x ∈ sl, Rd w' 1 x.A x.r.val.length (cB x.r.val)) := fun w' hc => KL.out w' ((hc6.out.mono (by simp)).trans hc (by simp))
              have HO6q := HO6
              have HX6q := HX6
              have HC6q := HC6
              have s3A := (HS6.out.al (.cells #[] 51)).cell 3
              simp only [List.getElem?_toArray, List.getElem?_cons_zero, List.getElem?_cons_succ] at s3A
              go_wp2_with (
                at_builtin
                refine wpList_append_rd _ rfl (.tmp 190) (.tmp 192) 25 (by rfl) w6.heap.size 51 i1 _ 9 96 Try.underlying25 hi1 hy0 hy1 hy2 rfl (by omega) (.slice (some ⟨w6.heap.size, 0, none⟩) 0 0) 0 [] (by rfl) (World.ownsRow_made w6 #[] 0 (Nat.le_refl _) (by simp [maxLen]) rfl) sA sl.length sc (cRc sl) (by rfl) ((KL6.out w6 (Chg.refl _ _)).1.alloc _) (cRc_one _) (by unfold maxLen; omega) (by omega) (by simp) ?_
                intro A4 c4 w4 hown4 hg4 hb4
                simp only [Nat.zero_add, List.nil_append] at hown4
                have hch4 : Chg [] w6 w4 := ((Chg.refl [] _).alloc _).grown hg4 (fun k hk => .inr (by simp [Value.ownBlock] at hk; omega))
                clear hg4 hb4)
              have hgi4 : gi < w4.heap.size := (HO6q.out.keep hch4 (by simp)).lt
              have hgx4 : gx < w4.heap.size := (HX6q.out.keep hch4 (by simp)).lt
              refine (send_any w4 gi ⟨oa, ob, ok, on, ot⟩ (HO6q.out.keep hch4 (by simp)) HOK A4 _ c4 sl rfl (Rd.of_own hown4) (fun x hx => (KL6.out w4 (hch4.mono (by simp))).2 x hx) (by omega)).mono ?_
              rintro e w5 ⟨A5, c5, ms5, rfl, hm5, hn5, hO5, hch5⟩
              have hc45 : Chg [gi, gx] w6 w5 := (hch4.mono (by simp)).trans hch5 (by simp)
              have HS5 := Lib.hid ((HS6.out.keep hch4 (by simp)).keep hch5 (by simp; omega))
              have HX5 := Lib.hid ((HX6q.out.keep hch4 (by simp)).keep hch5 (by simp; omega))
              have HM5 := Lib.hid hm5
              have HN5 := Lib.hid hn5
              have HO5 := Lib.hid hO5
              have HC45 := Lib.hid hc45
              have KLq5 : Hid (∀ w', Chg [gx] w5 w' → Rd w' 9 sA sl.length (cRc sl) ∧ ∀ x ∈ sl, Rd w' 1 x.A x.r.val.length (cB x.r.val)) := fun w' hc => KL6.out w' (HC45.out.trans hc (by simp))
              clear hm5 hn5 hO5 hch5 hch4 hown4 hc45 s3A
              have s5 := (HS5.out.cell 3)
              simp only [List.getElem?_toArray, List.getElem?_cons_zero, List.getElem?_cons_succ] at s5
              go_wp2_with (fail)
              refine (refSend_any w5 gx ⟨oa, ob, ok, on, ot⟩ HX5.out HOK sA _ sc sl rfl KLq5.out (by omega)).mono ?_
              rintro e w6 ⟨A6, c6, ms6, rfl, hm6, hX6, hch6⟩
              have HM6 := Lib.hid hm6
              have HX66 := Lib.hid hX6
              have HM5b := Lib.hid (HM5.out.keepS HN5.out hch6 (by simp; omega))
              have HO66 := Lib.hid (HO5.out.keep hch6 (by simp; omega))
              have HC66 : Hid (Chg [] w w6) := (HC6q.out.trans HC45.out (by simp; omega)).trans hch6 (by simp; omega)
              clear hm6 hX6 hch6 s5
              go_wp2_with (first
                | (go_at_call 17; (with_reducible refine (messages_yes w6 A5 A6 _ _ c5 c6 ms5 ms6 _ rfl rfl HM5b.out HM6.out (sentM_len _ _ _) (sentM_d HOK)).mono ?_); rintro e w7 ⟨rfl, hch7⟩; have HO7 := Lib.hid (HO66.out.keep hch7 (by simp)); have HX7 := Lib.hid (HX66.out.keep hch7 (by simp)); have HC7 : Hid (Chg [] w w7) := HC66.out.trans hch7 (by simp); clear hch7))
              have HOKs := Lib.hid (sendO_ok HOK (sl.map RcV.r))
              have hts : (sendO ⟨oa, ob, ok, on, ot⟩ (sl.map RcV.r)).2.2.t ≤ ((k2 + 1 : Nat) : Int) := by
                have := sendO_t (o := ⟨oa, ob, ok, on, ot⟩) (k := (k2 : Int)) (by omega) ht (sl.map RcV.r)
                push_cast
                exact this
              have hsk := sendO_ab ⟨oa, ob, ok, on, ot⟩ (sl.map RcV.r)
              obtain ⟨so, HSO⟩ : ∃ so, Hid ((sendO ⟨oa, ob, ok, on, ot⟩ (sl.map RcV.r)).2.2 = so) := ⟨_, rfl⟩
              rw [HSO.out] at HO7 HX7 HOKs hts hsk
              have cxk := HX7.out.o5.2.2.1
              go_quiet ((first | (go_at_call 34; first | exact quiet_left (ackedQ _ gi so (HO7.out.keep ((Chg.refl [] _).drewN _) (by simp))) | exact quiet_left2 (ackedQ _ gi so (HO7.out.keep ((Chg.refl [] _).drewN _) (by simp))))))
              go_wp2_with (fail)
              go_roundw
              case rel => exact ⟨k2 + 1, so, by omega, by omega, by go_num, HOKs.out, hts, hsk.1.trans hoa, hsk.2.trans hob, (by first | exact HO7.out | exact HO7.out.keep ((Chg.refl [] _).drewN _) (by simp)), (by first | exact HX7.out | exact HX7.out.keep ((Chg.refl [] _).drewN _) (by simp)), (by first | exact HC7.out | exact HC7.out.drewN _)⟩
              case measure => simp [intOf]; omega
          · have hnb := needO_bounds HOK HND.out
            obtain ⟨nb1, nb2, nb3⟩ := hnb
            go_wp2_with (fail)
            refine (some_any w6 a nc (min 8 (N - nc + 1)) (by omega) (by omega) (by omega)).mono ?_
            rintro e w7 ⟨A5y, c5y, l5, rfl, hl5, hown7, hV7, hch7⟩
            have hS7 := HS6.out.keep hch7 (by simp)
            have hO7 := HO6.out.keep hch7 (by simp)
            have hX7 := HX6.out.keep hch7 (by simp)
            have hC7 : Hid (Chg [] w w7) := HC6.out.trans hch7 (by simp)
            have s3 := hS7.cell 3
            have f3 := hS7.free 3
            simp only [List.getElem?_toArray, List.getElem?_cons_zero, List.getElem?_cons_succ] at s3
            have hb7 : gs < w6.heap.size := HS6.out.lt
            have hl5e := congrArg List.length hl5.out
            rw [List.length_map, someL_len] at hl5e
            have hl5n : 0 < l5.length ∧ l5.length ≤ 15 := by omega
            have HL5E := Lib.hid hl5e
            clear hl5e
            go_upto_region 35 with (fail)
            have qs : Chg [gs] w7 (w7.setCell ⟨gs, 3, none⟩ (.slice A5y l5.length c5y)) := (Chg.refl _ _).setCell (.inl (by simp)) _
            have HSy : Hid (At (w7.setCell ⟨gs, 3, none⟩ (.slice A5y l5.length c5y)) gs 71 #[.int .i64 6, .int .i64 N, .int .i64 M, .slice A5y l5.length c5y]) := by
              have h := hS7.set_ 3 (.slice A5y l5.length c5y)
              simpa [Hid] using h
            have HOy := Lib.hid (hO7.keep qs (by simp; omega))
            have HXy := Lib.hid (hX7.keep qs (by simp; omega))
            have HCy : Hid (Chg [] w (w7.setCell ⟨gs, 3, none⟩ (.slice A5y l5.length c5y))) := hC7.out.trans qs (by simp; omega)
            have KLy : Hid (∀ w', Chg [gi, gx] (w7.setCell ⟨gs, 3, none⟩ (.slice A5y l5.length c5y)) w' → Rd w' 9 A5y l5.length (cRc l5) ∧ ∀ x ∈ l5, Rd w' 1 x.A x.r.val.length (cB x.r.val)) := fun w' hc => by
              have hc2 : Chg [gi, gx, gs] w7 w' := (qs.mono (by simp)).trans hc (by first | (simp; done) | (simp; omega))
              refine ⟨(Rd.of_own hown7).keep hc2 (fun _ k hk hm => ?_), fun x hx => ?_⟩
              · have := (own_in hown7 k hk).1
                simp at hm
                omega
              · obtain ⟨g9, h1, h2, h3⟩ := hV7.out x hx
                have h4 : NewV w' w6.heap.size x := ⟨g9, h1, h2, h3.keep hc2 (by simp; omega)⟩
                exact h4.rd
            clear hS7 hO7 hX7 hC7 qs hch7 s3 f3 hl5
            generalize w7.setCell ⟨gs, 3, none⟩ (.slice A5y l5.length c5y) = wy at *
            clear s0 s1 s2
            have s0 : wy.cell? ⟨gs, 0, none⟩ = some (.int .i64 6) := (HSy.out.cell 0)
            have s1 : wy.cell? ⟨gs, 1, none⟩ = some (.int .i64 N) := (HSy.out.cell 1)
            have s2 : wy.cell? ⟨gs, 2, none⟩ = some (.int .i64 M) := (HSy.out.cell 2)
            have s3 := (HSy.out.cell 3)
            simp only [List.getElem?_toArray, List.getElem?_cons_zero, List.getElem?_cons_succ] at s3
            have hzi : (0 : Int) < (l5.length : Int) := by omega
            have hzb : decide ((0 : Int) < (l5.length : Int)) = true := decide_eq_true hzi
            have s3A := (HSy.out.al (.cells #[] 51)).cell 3
            simp only [List.getElem?_toArray, List.getElem?_cons_zero, List.getElem?_cons_succ] at s3A
            go_wp2_with (
              at_builtin
              refine wpList_append_rd _ rfl (.tmp 190) (.tmp 192) 25 (by rfl) wy.heap.size 51 i1 _ 9 96 Try.underlying25 hi1 hy0 hy1 hy2 rfl (by omega) (.slice (some ⟨wy.heap.size, 0, none⟩) 0 0) 0 [] (by rfl) (World.ownsRow_made wy #[] 0 (Nat.le_refl _) (by simp [maxLen]) rfl) A5y l5.length c5y (cRc l5) (by rfl) ((KLy.out wy (Chg.refl _ _)).1.alloc _) (cRc_one _) (by unfold maxLen; omega) (by omega) (by simp) ?_
              intro A4 c4 w4 hown4 hg4 hb4
              simp only [Nat.zero_add, List.nil_append] at hown4
              have hch4 : Chg [] wy w4 := ((Chg.refl [] _).alloc _).grown hg4 (fun k hk => .inr (by simp [Value.ownBlock] at hk; omega))
              clear hg4 hb4)
            have hgi4 : gi < w4.heap.size := (HOy.out.keep hch4 (by simp)).lt
            have hgx4 : gx < w4.heap.size := (HXy.out.keep hch4 (by simp)).lt
            refine (send_any w4 gi ⟨oa, ob, ok, on, ot⟩ (HOy.out.keep hch4 (by simp)) HOK A4 _ c4 l5 rfl (Rd.of_own hown4) (fun x hx => (KLy.out w4 (hch4.mono (by simp))).2 x hx) (by omega)).mono ?_
            rintro e w5 ⟨A5, c5, ms5, rfl, hm5, hn5, hO5, hch5⟩
            have hc45 : Chg [gi, gx] wy w5 := (hch4.mono (by simp)).trans hch5 (by simp)
            have HS5 := Lib.hid ((HSy.out.keep hch4 (by simp)).keep hch5 (by simp; omega))
            have HX5 := Lib.hid ((HXy.out.keep hch4 (by simp)).keep hch5 (by simp; omega))
            have HM5 := Lib.hid hm5
            have HN5 := Lib.hid hn5
            have HO5 := Lib.hid hO5
            have HC45 := Lib.hid hc45
            have KLy5 : Hid (∀ w', Chg [gx] w5 w' → Rd w' 9 A5y l5.length (cRc l5) ∧ ∀ x ∈ l5, Rd w' 1 x.A x.r.val.length (cB x.r.val)) := fun w' hc => KLy.out w' (HC45.out.trans hc (by simp))
            clear hm5 hn5 hO5 hch5 hch4 hown4 hc45 s3A
            have s5 := (HS5.out.cell 3)
            simp only [List.getElem?_toArray, List.getElem?_cons_zero, List.getElem?_cons_succ] at s5
            go_wp2_with (fail)
            refine (refSend_any w5 gx ⟨oa, ob, ok, on, ot⟩ HX5.out HOK A5y _ c5y l5 rfl KLy5.out (by omega)).mono ?_
            rintro e w6 ⟨A6, c6, ms6, rfl, hm6, hX6, hch6⟩
            have HM6 := Lib.hid hm6
            have HX6 := Lib.hid hX6
            have HM5b := Lib.hid (HM5.out.keepS HN5.out hch6 (by simp; omega))
            have HO6 := Lib.hid (HO5.out.keep hch6 (by simp; omega))
            have HC6 : Hid (Chg [] w w6) := (HCy.out.trans HC45.out (by simp; omega)).trans hch6 (by simp; omega)
            clear hm6 hX6 hch6 s5
            go_wp2_with (first
              | (go_at_call 17; (with_reducible refine (messages_yes w6 A5 A6 _ _ c5 c6 ms5 ms6 _ rfl rfl HM5b.out HM6.out (sentM_len _ _ _) (sentM_d HOK)).mono ?_); rintro e w7 ⟨rfl, hch7⟩; have HO7 := Lib.hid (HO6.out.keep hch7 (by simp)); have HX7 := Lib.hid (HX6.out.keep hch7 (by simp)); have HC7 : Hid (Chg [] w w7) := HC6.out.trans hch7 (by simp); clear hch7))
            have HOKs := Lib.hid (sendO_ok HOK (l5.map RcV.r))
            have hts : (sendO ⟨oa, ob, ok, on, ot⟩ (l5.map RcV.r)).2.2.t ≤ ((k2 + 1 : Nat) : Int) := by
              have := sendO_t (o := ⟨oa, ob, ok, on, ot⟩) (k := (k2 : Int)) (by omega) ht (l5.map RcV.r)
              push_cast
              exact this
            have hsk := sendO_ab ⟨oa, ob, ok, on, ot⟩ (l5.map RcV.r)
            obtain ⟨so, HSO⟩ : ∃ so, Hid ((sendO ⟨oa, ob, ok, on, ot⟩ (l5.map RcV.r)).2.2 = so) := ⟨_, rfl⟩
            rw [HSO.out] at HO7 HX7 HOKs hts hsk
            have cxk := HX7.out.o5.2.2.1
            go_quiet ((first | (go_at_call 34; first | exact quiet_left (ackedQ _ gi so (HO7.out.keep ((Chg.refl [] _).drewN _) (by simp))) | exact quiet_left2 (ackedQ _ gi so (HO7.out.keep ((Chg.refl [] _).drewN _) (by simp))))))
            go_wp2_with (fail)
            go_roundw
            case rel => exact ⟨k2 + 1, so, by omega, by omega, by go_num, HOKs.out, hts, hsk.1.trans hoa, hsk.2.trans hob, (by first | exact HO7.out | exact HO7.out.keep ((Chg.refl [] _).drewN _) (by simp)), (by first | exact HX7.out | exact HX7.out.keep ((Chg.refl [] _).drewN _) (by simp)), (by first | exact HC7.out | exact HC7.out.drewN _)⟩
            case measure => simp [intOf]; omega
        by_cases h2 : kd = 2
        · subst h2
          obtain ⟨mm, emm, hmm⟩ := and15m M
          go_wp2_with (fail)
          refine (some_any wz a (max 0 (min N 1099511627776)) (mm : Int) (by omega) (by omega) (by omega)).mono ?_
          rintro e w7 ⟨A5y, c5y, l5, rfl, hl5, hown7, hV7, hch7⟩
          have hS7 := HSz.out.keep hch7 (by simp)
          have hO7 := HOz.out.keep hch7 (by simp)
          have hX7 := HXz.out.keep hch7 (by simp)
          have hC7 : Hid (Chg [] w w7) := HCz.out.trans hch7 (by simp)
          have s3 := hS7.cell 3
          have f3 := hS7.free 3
          simp only [List.getElem?_toArray, List.getElem?_cons_zero, List.getElem?_cons_succ] at s3
          have hb7 : gs < wz.heap.size := HSz.out.lt
          have hl5e := congrArg List.length hl5.out
          rw [List.length_map, someL_len] at hl5e
          have hl5n : l5.length ≤ 15 := by omega
          have HL5E := Lib.hid hl5e
          clear hl5e
          go_upto_region 35 with (fail)
          have qs : Chg [gs] w7 (w7.setCell ⟨gs, 3, none⟩ (.slice A5y l5.length c5y)) := (Chg.refl _ _).setCell (.inl (by simp)) _
          have HSy : Hid (At (w7.setCell ⟨gs, 3, none⟩ (.slice A5y l5.length c5y)) gs 71 #[.int .i64 2, .int .i64 N, .int .i64 M, .slice A5y l5.length c5y]) := by
            have h := hS7.set_ 3 (.slice A5y l5.length c5y)
            simpa [Hid] using h
          have HOy := Lib.hid (hO7.keep qs (by simp; omega))
          have HXy := Lib.hid (hX7.keep qs (by simp; omega))
          have HCy : Hid (Chg [] w (w7.setCell ⟨gs, 3, none⟩ (.slice A5y l5.length c5y))) := hC7.out.trans qs (by simp; omega)
          have KLy : Hid (∀ w', Chg [gi, gx] (w7.setCell ⟨gs, 3, none⟩ (.slice A5y l5.length c5y)) w' → Rd w' 9 A5y l5.length (cRc l5) ∧ ∀ x ∈ l5, Rd w' 1 x.A x.r.val.length (cB x.r.val)) := fun w' hc => by
            have hc2 : Chg [gi, gx, gs] w7 w' := (qs.mono (by simp)).trans hc (by first | (simp; done) | (simp; omega))
            refine ⟨(Rd.of_own hown7).keep hc2 (fun _ k hk hm => ?_), fun x hx => ?_⟩
            · have := (own_in hown7 k hk).1
              simp at hm
              omega
            · obtain ⟨g9, h1, h2, h3⟩ := hV7.out x hx
              have h4 : NewV w' wz.heap.size x := ⟨g9, h1, h2, h3.keep hc2 (by simp; omega)⟩
              exact h4.rd
          clear hS7 hO7 hX7 hC7 qs hch7 s3 f3 hl5
          generalize w7.setCell ⟨gs, 3, none⟩ (.slice A5y l5.length c5y) = wy at *

          clear s0 s1 s2 emm
          have s0 : wy.cell? ⟨gs, 0, none⟩ = some (.int .i64 2) := (HSy.out.cell 0)
          have s1 : wy.cell? ⟨gs, 1, none⟩ = some (.int .i64 N) := (HSy.out.cell 1)
          have s2 : wy.cell? ⟨gs, 2, none⟩ = some (.int .i64 M) := (HSy.out.cell 2)
          have s3 := (HSy.out.cell 3)
          simp only [List.getElem?_toArray, List.getElem?_cons_zero, List.getElem?_cons_succ] at s3
          have s3A := (HSy.out.al (.cells #[] 51)).cell 3
          simp only [List.getElem?_toArray, List.getElem?_cons_zero, List.getElem?_cons_succ] at s3A
          go_wp2_with (
            at_builtin
            refine wpList_append_rd _ rfl (.tmp 190) (.tmp 192) 25 (by rfl) wy.heap.size 51 i1 _ 9 96 Try.underlying25 hi1 hy0 hy1 hy2 rfl (by omega) (.slice (some ⟨wy.heap.size, 0, none⟩) 0 0) 0 [] (by rfl) (World.ownsRow_made wy #[] 0 (Nat.le_refl _) (by simp [maxLen]) rfl) A5y l5.length c5y (cRc l5) (by rfl) ((KLy.out wy (Chg.refl _ _)).1.alloc _) (cRc_one _) (by unfold maxLen; omega) (by omega) (by simp) ?_
            intro A4 c4 w4 hown4 hg4 hb4
            simp only [Nat.zero_add, List.nil_append] at hown4
            have hch4 : Chg [] wy w4 := ((Chg.refl [] _).alloc _).grown hg4 (fun k hk => .inr (by simp [Value.ownBlock] at hk; omega))
            clear hg4 hb4)
          have hgi4 : gi < w4.heap.size := (HOy.out.keep hch4 (by simp)).lt
          have hgx4 : gx < w4.heap.size := (HXy.out.keep hch4 (by simp)).lt
          refine (send_any w4 gi ⟨oa, ob, ok, on, ot⟩ (HOy.out.keep hch4 (by simp)) HOK A4 _ c4 l5 rfl (Rd.of_own hown4) (fun x hx => (KLy.out w4 (hch4.mono (by simp))).2 x hx) (by omega)).mono ?_
          rintro e w5 ⟨A5, c5, ms5, rfl, hm5, hn5, hO5, hch5⟩
          have hc45 : Chg [gi, gx] wy w5 := (hch4.mono (by simp)).trans hch5 (by simp)
          have HS5 := Lib.hid ((HSy.out.keep hch4 (by simp)).keep hch5 (by simp; omega))
          have HX5 := Lib.hid ((HXy.out.keep hch4 (by simp)).keep hch5 (by simp; omega))
          have HM5 := Lib.hid hm5
          have HN5 := Lib.hid hn5
          have HO5 := Lib.hid hO5
          have HC45 := Lib.hid hc45
          have KLy5 : Hid (∀ w', Chg [gx] w5 w' → Rd w' 9 A5y l5.length (cRc l5) ∧ ∀ x ∈ l5, Rd w' 1 x.A x.r.val.length (cB x.r.val)) := fun w' hc => KLy.out w' (HC45.out.trans hc (by simp))
          clear hm5 hn5 hO5 hch5 hch4 hown4 hc45 s3A
          have s5 := (HS5.out.cell 3)
          simp only [List.getElem?_toArray, List.getElem?_cons_zero, List.getElem?_cons_succ] at s5
          go_wp2_with (fail)
          refine (refSend_any w5 gx ⟨oa, ob, ok, on, ot⟩ HX5.out HOK A5y _ c5y l5 rfl KLy5.out (by omega)).mono ?_
          rintro e w6 ⟨A6, c6, ms6, rfl, hm6, hX6, hch6⟩
          have HM6 := Lib.hid hm6
          have HX6 := Lib.hid hX6
          have HM5b := Lib.hid (HM5.out.keepS HN5.out hch6 (by simp; omega))
          have HO6 := Lib.hid (HO5.out.keep hch6 (by simp; omega))
          have HC6 : Hid (Chg [] w w6) := (HCy.out.trans HC45.out (by simp; omega)).trans hch6 (by simp; omega)
          clear hm6 hX6 hch6 s5
          go_wp2_with (first
            | (go_at_call 17; (with_reducible refine (messages_yes w6 A5 A6 _ _ c5 c6 ms5 ms6 _ rfl rfl HM5b.out HM6.out (sentM_len _ _ _) (sentM_d HOK)).mono ?_); rintro e w7 ⟨rfl, hch7⟩; have HO7 := Lib.hid (HO6.out.keep hch7 (by simp)); have HX7 := Lib.hid (HX6.out.keep hch7 (by simp)); have HC7 : Hid (Chg [] w w7) := HC6.out.trans hch7 (by simp); clear hch7))
          have HOKs := Lib.hid (sendO_ok HOK (l5.map RcV.r))
          have hts : (sendO ⟨oa, ob, ok, on, ot⟩ (l5.map RcV.r)).2.2.t ≤ ((k2 + 1 : Nat) : Int) := by
            have := sendO_t (o := ⟨oa, ob, ok, on, ot⟩) (k := (k2 : Int)) (by omega) ht (l5.map RcV.r)
            push_cast
            exact this
          have hsk := sendO_ab ⟨oa, ob, ok, on, ot⟩ (l5.map RcV.r)
          obtain ⟨so, HSO⟩ : ∃ so, Hid ((sendO ⟨oa, ob, ok, on, ot⟩ (l5.map RcV.r)).2.2 = so) := ⟨_, rfl⟩
          rw [HSO.out] at HO7 HX7 HOKs hts hsk
          have cxk := HX7.out.o5.2.2.1
          go_quiet ((first | (go_at_call 34; first | exact quiet_left (ackedQ _ gi so (HO7.out.keep ((Chg.refl [] _).drewN _) (by simp))) | exact quiet_left2 (ackedQ _ gi so (HO7.out.keep ((Chg.refl [] _).drewN _) (by simp))))))
          go_wp2_with (fail)
          go_roundw
          case rel => exact ⟨k2 + 1, so, by omega, by omega, by go_num, HOKs.out, hts, hsk.1.trans hoa, hsk.2.trans hob, (by first | exact HO7.out | exact HO7.out.keep ((Chg.refl [] _).drewN _) (by simp)), (by first | exact HX7.out | exact HX7.out.keep ((Chg.refl [] _).drewN _) (by simp)), (by first | exact HC7.out | exact HC7.out.drewN _)⟩
          case measure => simp [intOf]; omega
        by_cases h1 : kd = 1
        · subst h1
          obtain ⟨nc, nd, hnd⟩ : ∃ nc nd, needO ⟨oa, ob, ok, on, ot⟩ N = (nc, nd) := ⟨_, _, rfl⟩
          have HND := Lib.hid hnd
          go_wp2_with (fail)
          refine (need_any wz gi ⟨oa, ob, ok, on, ot⟩ HOz.out HOK N).mono ?_
          rw [hnd]
          rintro e w5 ⟨rfl, hch5⟩
          have hX5 := HXz.out.keep hch5 (by simp)
          have hO5 := HOz.out.keep hch5 (by simp)
          have hS5 := HSz.out.keep hch5 (by simp)
          have HC5 : Hid (Chg [] w w5) := HCz.out.trans hch5 (by simp)
          have hc5 := Lib.hid hch5
          clear s0 s1 s2 s3 hch5
          have s0 : w5.cell? ⟨gs, 0, none⟩ = some (.int .i64 1) := (hS5.cell 0)
          have s1 : w5.cell? ⟨gs, 1, none⟩ = some (.int .i64 N) := (hS5.cell 1)
          have s2 : w5.cell? ⟨gs, 2, none⟩ = some (.int .i64 M) := (hS5.cell 2)
          have s3 := (hS5.cell 3)
          simp only [List.getElem?_toArray, List.getElem?_cons_zero, List.getElem?_cons_succ] at s3
          simp only
          go_wp2_with (fail)
          refine (refNeed_any w5 gx ⟨oa, ob, ok, on, ot⟩ hX5 HOK N).mono ?_
          rw [hnd]
          rintro e w6 ⟨rfl, hch6⟩
          have HO6 := Lib.hid (hO5.keep hch6 (by simp))
          have HX6 := Lib.hid (hX5.keep hch6 (by simp))
          have HS6 := Lib.hid (hS5.keep hch6 (by simp))
          have HC6 : Hid (Chg [] w w6) := HC5.out.trans hch6 (by simp)
          have hc6 := Lib.hid (hc5.out.trans hch6 (by simp))
          clear s0 s1 s2 s3 hX5 hO5 hS5 hch6 hnd
          have s0 : w6.cell? ⟨gs, 0, none⟩ = some (.int .i64 1) := (HS6.out.cell 0)
          have s1 : w6.cell? ⟨gs, 1, none⟩ = some (.int .i64 N) := (HS6.out.cell 1)
          have s2 : w6.cell? ⟨gs, 2, none⟩ = some (.int .i64 M) := (HS6.out.cell 2)
          have s3 := (HS6.out.cell 3)
          simp only [List.getElem?_toArray, List.getElem?_cons_zero, List.getElem?_cons_succ] at s3
          simp only
          go_wp2_with (fail)
          have cxk := HX6.out.o5.2.2.1
          go_quiet ((first | (go_at_call 34; first | exact quiet_left (ackedQ _ gi ⟨oa, ob, ok, on, ot⟩ (HO6.out.keep ((Chg.refl [] _).drewN _) (by simp))) | exact quiet_left2 (ackedQ _ gi ⟨oa, ob, ok, on, ot⟩ (HO6.out.keep ((Chg.refl [] _).drewN _) (by simp))))))
          go_wp2_with (fail)
          go_roundw
          case rel => exact ⟨k2 + 1, ⟨oa, ob, ok, on, ot⟩, by omega, by omega, by go_num, HOK, by show ot ≤ ((k2 + 1 : Nat) : Int); omega, hoa, hob, (by first | exact HO6.out | exact HO6.out.keep ((Chg.refl [] _).drewN _) (by simp)), (by first | exact HX6.out | exact HX6.out.keep ((Chg.refl [] _).drewN _) (by simp)), (by first | exact HC6.out | exact HC6.out.drewN _)⟩
          case measure => simp [intOf]; omega
        by_cases h3 : kd = 3
        · subst h3
          obtain ⟨rb, so, hak⟩ : ∃ rb so, ackO ⟨oa, ob, ok, on, ot⟩ N = (rb, so) := ⟨_, _, rfl⟩
          have HAK := Lib.hid hak
          have KO : Hid (∀ w', Chg [] wz w' → At w' gi 95 (OSt.cells ⟨oa, ob, ok, on, ot⟩)) := fun w' hc => HOz.out.keep hc (by simp)
          have KS : Hid (∀ w', Chg [] wz w' → w'.cell? ⟨gs, 1, none⟩ = some (.int .i64 N)) := fun w' hc => (HSz.out.keep hc (by simp)).cell 1
          go_wp2_with (fail)
          refine wp_region_held_drew (S := fun w' => w'.cell? ⟨gs, 1, none⟩ = some (.int .i64 N)) (by kernel_rfl) ?_ (fun hHeld => ?_)
          · exact KS.out _ (by repeat' (first | (with_reducible assumption) | (with_reducible exact Chg.refl _ _) | (with_reducible refine Chg.alloc ?_ _) | (with_reducible refine Chg.drewN ?_ _) | (with_reducible refine Chg.drew ?_) | (with_reducible refine Chg.strW ?_ _ _) | (with_reducible refine Chg.t0 ?_ (by with_reducible assumption))))
          refine takeW (i := 0) (d := (some 154)) (v := ?_) rfl rfl (by kernel_rfl) (by kernel_rfl) (by kernel_rfl) (fun _ _ _ h => h) (by rfl) ?_ (by assumption) ?_
          rotate_left
          · intro w' hSw; (try dsimp only at hSw); go_simp; try with_reducible rfl
          try simp only [Act.put, List.setIfInBounds_toArray, List.set_cons_zero, List.set_cons_succ]
          refine takeW (i := 1) (d := (some 155)) (v := ?_) rfl rfl (by kernel_rfl) (by kernel_rfl) (by kernel_rfl) (fun _ _ _ h => h) (by rfl) ?_ (by assumption) ?_
          rotate_left
          · intro w' hSw; (try dsimp only at hSw); go_simp; try with_reducible rfl
          try simp only [Act.put, List.setIfInBounds_toArray, List.set_cons_zero, List.set_cons_succ]
          refine takeW (i := 2) (d := (some 156)) (v := ?_) rfl rfl (by kernel_rfl) (by kernel_rfl) (by kernel_rfl) (fun _ _ _ h => h) (by rfl) ?_ (by assumption) ?_
          rotate_left
          · intro w' hSw; (try dsimp only at hSw); go_simp; try with_reducible rfl
          try simp only [Act.put, List.setIfInBounds_toArray, List.set_cons_zero, List.set_cons_succ]
          refine takeW (i := 4) (d := (some 158)) (v := ?_) rfl rfl (by kernel_rfl) (by kernel_rfl) (by kernel_rfl) (fun _ _ _ h => h) (by rfl) ?_ (by assumption) ?_
          rotate_left
          · intro w' hSw; (try dsimp only at hSw); go_simp; try with_reducible rfl
          try simp only [Act.put, List.setIfInBounds_toArray, List.set_cons_zero, List.set_cons_succ]
          refine takeW (i := 5) (d := (some 159)) (v := ?_) rfl rfl (by kernel_rfl) (by kernel_rfl) (by kernel_rfl) (fun _ _ _ h => h) (by rfl) ?_ (by assumption) ?_
          rotate_left
          · intro w' hSw; (try dsimp only at hSw); go_simp; try with_reducible rfl
          try simp only [Act.put, List.setIfInBounds_toArray, List.set_cons_zero, List.set_cons_succ]
          refine takeW (i := 6) (d := (some 160)) (v := ?_) rfl rfl (by kernel_rfl) (by kernel_rfl) (by kernel_rfl) (fun _ _ _ h => h) (by rfl) ?_ (by assumption) ?_
          rotate_left
          · intro w' hSw; (try dsimp only at hSw); go_simp; try with_reducible rfl
          try simp only [Act.put, List.setIfInBounds_toArray, List.set_cons_zero, List.set_cons_succ]
          refine wpAnyH_ready (rs := [3]) (by kernel_rfl) (by simp) ?_
          refine AllReadyH.cons rfl (fun K hK => ?_) AllReadyH.nil
          go_simp
          go_at_call 26
          (with_reducible refine (ack_any _ gi ⟨oa, ob, ok, on, ot⟩ (KO.out _ (by repeat' (first | (with_reducible assumption) | (with_reducible exact Chg.refl _ _) | (with_reducible refine Chg.alloc ?_ _) | (with_reducible refine Chg.drewN ?_ _) | (with_reducible refine Chg.drew ?_) | (with_reducible refine Chg.strW ?_ _ _) | (with_reducible refine Chg.t0 ?_ (by with_reducible assumption))))) N).mono ?_)
          rw [hak]
          rintro e w5 ⟨rfl, hO5, hch5⟩
          have q5 : Hid (Chg [gi] wz w5) := (Chg.trans (by repeat' (first | (with_reducible assumption) | (with_reducible exact Chg.refl _ _) | (with_reducible refine Chg.alloc ?_ _) | (with_reducible refine Chg.drewN ?_ _) | (with_reducible refine Chg.drew ?_) | (with_reducible refine Chg.strW ?_ _ _) | (with_reducible refine Chg.t0 ?_ (by with_reducible assumption)))) hch5 (by simp) : Chg [gi] wz w5)
          have HO5 := Lib.hid hO5
          clear hO5 hch5
          simp only
          go_wp2_with (fail)
          refine hK.out _ _ ?_ (fun hHeld => ?_)
          · exact (HSz.out.keep q5.out (by simp; omega)).cell 1
          clear hK K
          try simp only [Act.put, List.setIfInBounds_toArray, List.set_cons_zero, List.set_cons_succ]
          refine wpAnyH_ready (rs := [7]) (by kernel_rfl) (by simp) ?_
          refine AllReadyH.cons rfl (fun K hK => ?_) AllReadyH.nil
          go_simp
          go_at_call 31
          (with_reducible refine (refAck_any w5 gx ⟨oa, ob, ok, on, ot⟩ (HXz.out.keep q5.out (by simp; omega)) N).mono ?_)
          rw [hak]
          rintro e w6 ⟨rfl, hX6, hch6⟩
          have HX6 := Lib.hid hX6
          have HO6 := Lib.hid (HO5.out.keep hch6 (by simp; omega))
          have HS6 := Lib.hid ((HSz.out.keep q5.out (by simp; omega)).keep hch6 (by simp; omega))
          have HC6 : Hid (Chg [] w w6) := (HCz.out.trans q5.out (by simp; omega)).trans hch6 (by simp; omega)
          clear hX6 hch6
          simp only
          go_wp2_with (fail)
          refine hK.out _ _ ?_ (fun hHeld => ?_)
          · exact HS6.out.cell 1
          clear hK K
          try simp only [Act.put, List.setIfInBounds_toArray, List.set_cons_zero, List.set_cons_succ]
          refine takeW (i := 8) (d := (some 162)) (v := ?_) rfl rfl (by kernel_rfl) (by kernel_rfl) (by kernel_rfl) (fun _ _ _ h => h) (by rfl) ?_ (by assumption) ?_
          rotate_left
          · intro w' hSw; (try dsimp only at hSw); go_simp; try with_reducible rfl
          try simp only [Act.put, List.setIfInBounds_toArray, List.set_cons_zero, List.set_cons_succ]
          refine takeW (i := 9) (d := (some 17)) (v := ?_) rfl rfl (by kernel_rfl) (by kernel_rfl) (by kernel_rfl) (fun _ _ _ h => h) (by rfl) ?_ (by assumption) ?_
          rotate_left
          · intro w' hSw; (try dsimp only at hSw); go_simp; try with_reducible rfl
          try simp only [Act.put, List.setIfInBounds_toArray, List.set_cons_zero, List.set_cons_succ]
          refine wpAnyH_done (by kernel_rfl) ?_ _
          have HOKs := Lib.hid (ackO_ok HOK N)
          have hts := ackO_t (o := ⟨oa, ob, ok, on, ot⟩) (k := (k2 : Int)) (by omega) ht N
          have hsk := ackO_ab ⟨oa, ob, ok, on, ot⟩ N
          rw [hak] at HOKs hts hsk
          simp only at HOKs hts hsk
          clear hak s0 s1 s2 s3 hHeld
          have s0 : w6.cell? ⟨gs, 0, none⟩ = some (.int .i64 3) := (HS6.out.cell 0)
          have s1 : w6.cell? ⟨gs, 1, none⟩ = some (.int .i64 N) := (HS6.out.cell 1)
          have s2 : w6.cell? ⟨gs, 2, none⟩ = some (.int .i64 M) := (HS6.out.cell 2)
          have s3 := (HS6.out.cell 3)
          simp only [List.getElem?_toArray, List.getElem?_cons_zero, List.getElem?_cons_succ] at s3
          go_wp2_with (fail)
          have cxk := HX6.out.o5.2.2.1
          go_quiet ((first | (go_at_call 34; first | exact quiet_left (ackedQ _ gi so (HO6.out.keep ((Chg.refl [] _).drewN _) (by simp))) | exact quiet_left2 (ackedQ _ gi so (HO6.out.keep ((Chg.refl [] _).drewN _) (by simp))))))
          go_wp2_with (fail)
          go_roundw
          case rel => exact ⟨k2 + 1, so, by omega, by omega, by go_num, HOKs.out, by push_cast; exact hts, hsk.1.trans hoa, hsk.2.trans hob, (by first | exact HO6.out | exact HO6.out.keep ((Chg.refl [] _).drewN _) (by simp)), (by first | exact HX6.out | exact HX6.out.keep ((Chg.refl [] _).drewN _) (by simp)), (by first | exact HC6.out | exact HC6.out.drewN _)⟩
          case measure => simp [intOf]; omega
        by_cases h4 : kd = 4
        · subst h4
          go_wp2_with (fail)
          refine (tick_any wz gi ⟨oa, ob, ok, on, ot⟩ HOz.out ⟨HOK.t0, HOK.t1⟩).mono ?_
          rintro e w5 ⟨rfl, hO5, hch5⟩
          have hX5 := HXz.out.keep hch5 (by simp; omega)
          have hS5 := HSz.out.keep hch5 (by simp; omega)
          have HC5 : Hid (Chg [] w w5) := HCz.out.trans hch5 (by simp; omega)
          go_wp2_with (fail)
          refine (refTick_any w5 gx ⟨oa, ob, ok, on, ot⟩ hX5 ⟨HOK.t0, HOK.t1⟩).mono ?_
          rintro e w6 ⟨rfl, hX6, hch6⟩
          have HX6 := Lib.hid hX6
          have HO6 := Lib.hid (hO5.keep hch6 (by simp; omega))
          have HS6 := Lib.hid (hS5.keep hch6 (by simp; omega))
          have HC6 : Hid (Chg [] w w6) := HC5.out.trans hch6 (by simp; omega)
          have HOKs := Lib.hid (tickO_ok HOK (show ot ≤ 150 by omega))
          have hts := tickO_t (o := ⟨oa, ob, ok, on, ot⟩) (k := (k2 : Int)) ht
          have hsk := tickO_ab ⟨oa, ob, ok, on, ot⟩
          obtain ⟨so, HSO⟩ : ∃ so, Hid (tickO ⟨oa, ob, ok, on, ot⟩ = so) := ⟨_, rfl⟩
          rw [HSO.out] at HO6 HX6 HOKs hts hsk
          clear hO5 hch5 hX5 hS5 hX6 hch6 s0 s1 s2 s3
          have s0 : w6.cell? ⟨gs, 0, none⟩ = some (.int .i64 4) := (HS6.out.cell 0)
          have s1 : w6.cell? ⟨gs, 1, none⟩ = some (.int .i64 N) := (HS6.out.cell 1)
          have s2 : w6.cell? ⟨gs, 2, none⟩ = some (.int .i64 M) := (HS6.out.cell 2)
          have s3 := (HS6.out.cell 3)
          simp only [List.getElem?_toArray, List.getElem?_cons_zero, List.getElem?_cons_succ] at s3
          go_wp2_with (fail)
          have cxk := HX6.out.o5.2.2.1
          go_quiet ((first | (go_at_call 34; first | exact quiet_left (ackedQ _ gi so (HO6.out.keep ((Chg.refl [] _).drewN _) (by simp))) | exact quiet_left2 (ackedQ _ gi so (HO6.out.keep ((Chg.refl [] _).drewN _) (by simp))))))
          go_wp2_with (fail)
          go_roundw
          case rel => exact ⟨k2 + 1, so, by omega, by omega, by go_num, HOKs.out, by push_cast; exact hts, hsk.1.trans hoa, hsk.2.trans hob, (by first | exact HO6.out | exact HO6.out.keep ((Chg.refl [] _).drewN _) (by simp)), (by first | exact HX6.out | exact HX6.out.keep ((Chg.refl [] _).drewN _) (by simp)), (by first | exact HC6.out | exact HC6.out.drewN _)⟩
          case measure => simp [intOf]; omega
        by_cases h5 : kd = 5
        · have q5 : Hid (kd = 5) := h5
          subst h5
          obtain ⟨lz, hlz⟩ : ∃ lz, lz = sl := ⟨_, rfl⟩
          obtain ⟨Az, hAz⟩ : ∃ Az, Az = sA := ⟨_, rfl⟩
          obtain ⟨cz, hcz⟩ : ∃ cz, cz = sc := ⟨_, rfl⟩
          subst hlz hAz hcz
          have s3A := (HSz.out.al (.cells #[] 51)).cell 3
          simp only [List.getElem?_toArray, List.getElem?_cons_zero, List.getElem?_cons_succ] at s3A
          go_wp2_with (
            at_builtin
            refine wpList_append_rd _ rfl (.tmp 190) (.tmp 192) 25 (by rfl) wz.heap.size 51 i1 _ 9 96 Try.underlying25 hi1 hy0 hy1 hy2 rfl (by omega) (.slice (some ⟨wz.heap.size, 0, none⟩) 0 0) 0 [] (by rfl) (World.ownsRow_made wz #[] 0 (Nat.le_refl _) (by simp [maxLen]) rfl) Az lz.length cz (cRc lz) (by rfl) ((KL.out wz (Chg.refl _ _)).1.alloc _) (cRc_one _) (by unfold maxLen; omega) (by omega) (by simp) ?_
            intro A4 c4 w4 hown4 hg4 hb4
            simp only [Nat.zero_add, List.nil_append] at hown4
            have hch4 : Chg [] wz w4 := ((Chg.refl [] _).alloc _).grown hg4 (fun k hk => .inr (by simp [Value.ownBlock] at hk; omega))
            clear hg4 hb4)
          have hgi4 : gi < w4.heap.size := (HOz.out.keep hch4 (by simp)).lt
          have hgx4 : gx < w4.heap.size := (HXz.out.keep hch4 (by simp)).lt
          refine (send_any w4 gi ⟨oa, ob, ok, on, ot⟩ (HOz.out.keep hch4 (by simp)) HOK A4 _ c4 lz rfl (Rd.of_own hown4) (fun x hx => (KL.out w4 (hch4.mono (by simp))).2 x hx) (by omega)).mono ?_
          rintro e w5 ⟨A5, c5, ms5, rfl, hm5, hn5, hO5, hch5⟩
          have hc45 : Chg [gi, gx] wz w5 := (hch4.mono (by simp)).trans hch5 (by simp)
          have HS5 := Lib.hid ((HSz.out.keep hch4 (by simp)).keep hch5 (by simp; omega))
          have HX5 := Lib.hid ((HXz.out.keep hch4 (by simp)).keep hch5 (by simp; omega))
          have HM5 := Lib.hid hm5
          have HN5 := Lib.hid hn5
          have HO5 := Lib.hid hO5
          have HC45 := Lib.hid hc45
          have KL5 : Hid (∀ w', Chg [gx] w5 w' → Rd w' 9 Az lz.length (cRc lz) ∧ ∀ x ∈ lz, Rd w' 1 x.A x.r.val.length (cB x.r.val)) := fun w' hc => KL.out w' (HC45.out.trans hc (by simp))
          clear hm5 hn5 hO5 hch5 hch4 hown4 hc45 s3A
          have s5 := (HS5.out.cell 3)
          simp only [List.getElem?_toArray, List.getElem?_cons_zero, List.getElem?_cons_succ] at s5
          go_wp2_with (fail)
          refine (refSend_any w5 gx ⟨oa, ob, ok, on, ot⟩ HX5.out HOK Az _ cz lz rfl KL5.out (by omega)).mono ?_
          rintro e w6 ⟨A6, c6, ms6, rfl, hm6, hX6, hch6⟩
          have HM6 := Lib.hid hm6
          have HX6 := Lib.hid hX6
          have HM5b := Lib.hid (HM5.out.keepS HN5.out hch6 (by simp; omega))
          have HO6 := Lib.hid (HO5.out.keep hch6 (by simp; omega))
          have HC6 : Hid (Chg [] w w6) := (HCz.out.trans HC45.out (by simp; omega)).trans hch6 (by simp; omega)
          clear hm6 hX6 hch6 s5
          go_wp2_with (first
            | (go_at_call 17; (with_reducible refine (messages_yes w6 A5 A6 _ _ c5 c6 ms5 ms6 _ rfl rfl HM5b.out HM6.out (sentM_len _ _ _) (sentM_d HOK)).mono ?_); rintro e w7 ⟨rfl, hch7⟩; have HO7 := Lib.hid (HO6.out.keep hch7 (by simp)); have HX7 := Lib.hid (HX6.out.keep hch7 (by simp)); have HC7 : Hid (Chg [] w w7) := HC6.out.trans hch7 (by simp); clear hch7))
          have HOKs := Lib.hid (sendO_ok HOK (lz.map RcV.r))
          have hts : (sendO ⟨oa, ob, ok, on, ot⟩ (lz.map RcV.r)).2.2.t ≤ ((k2 + 1 : Nat) : Int) := by
            have := sendO_t (o := ⟨oa, ob, ok, on, ot⟩) (k := (k2 : Int)) (by omega) ht (lz.map RcV.r)
            push_cast
            exact this
          have hsk := sendO_ab ⟨oa, ob, ok, on, ot⟩ (lz.map RcV.r)
          obtain ⟨so, HSO⟩ : ∃ so, Hid ((sendO ⟨oa, ob, ok, on, ot⟩ (lz.map RcV.r)).2.2 = so) := ⟨_, rfl⟩
          rw [HSO.out] at HO7 HX7 HOKs hts hsk
          have cxk := HX7.out.o5.2.2.1
          go_quiet ((first | (go_at_call 34; first | exact quiet_left (ackedQ _ gi so (HO7.out.keep ((Chg.refl [] _).drewN _) (by simp))) | exact quiet_left2 (ackedQ _ gi so (HO7.out.keep ((Chg.refl [] _).drewN _) (by simp))))))
          go_wp2_with (fail)
          go_roundw
          case rel => exact ⟨k2 + 1, so, by omega, by omega, by go_num, HOKs.out, hts, hsk.1.trans hoa, hsk.2.trans hob, (by first | exact HO7.out | exact HO7.out.keep ((Chg.refl [] _).drewN _) (by simp)), (by first | exact HX7.out | exact HX7.out.keep ((Chg.refl [] _).drewN _) (by simp)), (by first | exact HC7.out | exact HC7.out.drewN _)⟩
          case measure => simp [intOf]; omega
        have b1 : (kd == 1) = false := by rw [beq_eq_false_iff_ne]; exact h1
        have b2 : (kd == 2) = false := by rw [beq_eq_false_iff_ne]; exact h2
        have b3 : (kd == 3) = false := by rw [beq_eq_false_iff_ne]; exact h3
        have b4 : (kd == 4) = false := by rw [beq_eq_false_iff_ne]; exact h4
        have b5 : (kd == 5) = false := by rw [beq_eq_false_iff_ne]; exact h5
        have b6 : (kd == 6) = false := by rw [beq_eq_false_iff_ne]; exact h6
        clear h1 h2 h3 h4 h5 h6
        go_wp2_with (fail)
        have cxk := HXz.out.o5.2.2.1
        go_quiet ((first | (go_at_call 34; first | exact quiet_left (ackedQ _ gi ⟨oa, ob, ok, on, ot⟩ (HOz.out.keep ((Chg.refl [] _).drewN _) (by simp))) | exact quiet_left2 (ackedQ _ gi ⟨oa, ob, ok, on, ot⟩ (HOz.out.keep ((Chg.refl [] _).drewN _) (by simp))))))
        go_wp2_with (fail)
        go_roundw
        case rel => exact ⟨k2 + 1, ⟨oa, ob, ok, on, ot⟩, by omega, by omega, by go_num, HOK, by show ot ≤ ((k2 + 1 : Nat) : Int); omega, hoa, hob, (by first | exact HOz.out | exact HOz.out.keep ((Chg.refl [] _).drewN _) (by simp)), (by first | exact HXz.out | exact HXz.out.keep ((Chg.refl [] _).drewN _) (by simp)), (by first | exact HCz.out | exact HCz.out.drewN _)⟩
        case measure => simp [intOf]; omega
      · by_cases h1 : k2 < ls.length
        · have h2 : ¬ (k2 : Int) < 150 := by omega
          have h1i : (k2 : Int) < (ls.length : Int) := by omega
          go_wp2_with (go_at_call 11; (with_reducible refine (knownL_any _).mono ?_); rintro e w9 ⟨rfl, hch9⟩)
          go_ret
          exact ⟨rfl, HC2.out.trans hch9 (by simp)⟩
        · have h1i : ¬ (k2 : Int) < (ls.length : Int) := by omega
          go_wp2_with (go_at_call 11; (with_reducible refine (knownL_any _).mono ?_); rintro e w9 ⟨rfl, hch9⟩)
          go_ret
          exact ⟨rfl, HC2.out.trans hch9 (by simp)⟩
end Go.Proofs.Ytdfkednggjelcaa
