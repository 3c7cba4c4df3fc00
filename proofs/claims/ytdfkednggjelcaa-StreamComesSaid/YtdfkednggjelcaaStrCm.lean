
/-
  StreamComes: the walk of the law.
-/
import Derived.Test.YtdfkednggjelcaaStrCt
import Derived.Test.YtdfkednggjelcaaHeldE
import Derived.Test.YtdfkednggjelcaaMask
import Derived.Test.YtdfkednggjelcaaMRecQ
import Derived.Deep.DeepCutAuto
import Derived.Deep.CutBlock
namespace Go.Proofs.Ytdfkednggjelcaa
open Go.RowKit
set_option linter.unusedVariables false
set_option linter.unusedSimpArgs false
attribute [local go_sem ↓] run_min2 run_max2
theorem info_msgS : (Try.prog.info? 63).map (fun i => (i.zero, i.size, i.bytes)) = some (some (.agg #[.int .i64 0, .int .i64 0, .slice none 0 0]), 3, 40) := by kernel_rfl
theorem cMg_one (l : List MgV) : ∀ u ∈ cMg l, u.oneCell' = true := by
  intro u hu
  obtain ⟨x, _, hx⟩ := List.mem_flatMap.1 hu
  simp only [MgV.cells, List.mem_cons, List.not_mem_nil, or_false] at hx
  rcases hx with rfl | rfl | rfl <;> rfl
theorem cInt_get (l : List Int) (i : Nat) : (l.flatMap fun z => [Value.int .i64 z])[i]? = (l[i]?).map (Value.int .i64) := by
  have e : (l.flatMap fun z => [Value.int .i64 z]) = l.map (Value.int .i64) := by
    induction l with
    | nil => rfl
    | cons a l ih => rw [List.flatMap_cons, ih]; rfl
  rw [e, List.getElem?_map]
theorem need_cases (N : Nat) (s : SS) (h : Safe N s) : (∃ f : Nat, needO s.o N = ((f : Int), true) ∧ sendS N s = putS N f s ∧ s.k < f ∧ f ≤ s.n + 1 ∧ f ≤ N) ∨ (needO s.o N = (0, false) ∧ sendS N s = s) := by
  have h1 := h.ka
  have h2 := h.an
  have h3 := h.nN
  rw [need_o]
  unfold sendS
  by_cases a : s.n < N
  · rw [if_pos a, if_pos a]
    exact .inl ⟨s.n + 1, by simp, rfl, by omega, by omega, by omega⟩
  · rw [if_neg a, if_neg a]
    by_cases b : s.k < N ∧ 4 ≤ s.t
    · rw [if_pos b, if_pos b]
      exact .inl ⟨s.k + 1, by simp, rfl, by omega, by omega, by omega⟩
    · rw [if_neg b, if_neg b]
      exact .inr ⟨rfl, rfl⟩
def wA (x : Nat) (s : SS) : SS := if x = 1 then { s with q := s.q.drop 1 } else s
def wB (x : Nat) (s : SS) : SS := if x = 2 ∧ s.q.length < 50 then { s with q := twiceQ s.q } else s
theorem wAB (x : Nat) (s : SS) : wB x (wA x s) = weatherS x s := by
  unfold wA wB weatherS
  by_cases h : x = 1
  · subst h
    rw [if_pos rfl, if_pos rfl, if_neg (fun h => by cases h.1)]
  · rw [if_neg h, if_neg h]
theorem wA_nil {s : SS} (h : s.q = []) (x : Nat) : wA x s = s := by
  unfold wA
  split
  · cases s with
    | mk k n t a q => simp only at h; subst h; rfl
  · rfl
theorem wB_nil {s : SS} (h : s.q = []) (x : Nat) : wB x s = s := by
  unfold wB
  split
  · cases s with
    | mk k n t a q => simp only at h; subst h; rfl
  · rfl
/-- The weather as numbers from 0 to 3. -/
def wxS (ls : List Int) (i : Nat) : Nat := (bits .and .i64 (ls.getD i 0) 3).toNat
theorem wx_and (ls : List Int) (i : Nat) : bits .and .i64 (ls.getD i 0) 3 = (wxS ls i : Int) ∧ wxS ls i ≤ 3 := by
  obtain ⟨m, e, h⟩ := and3m (ls.getD i 0)
  unfold wxS
  rw [e]
  simp
  exact h
theorem wx_calm (ls : List Int) (i : Nat) (h : ls.length ≤ i) : wxS ls i = 0 := by
  unfold wxS
  rw [List.getD_eq_getElem?_getD, List.getElem?_eq_none h]
  decide
theorem ok_o {N : Nat} {s : SS} (h : Safe N s) (hN : N ≤ 60) (ht : s.t ≤ 1000) : s.o.Ok := by
  have h1 := h.ka
  have h2 := h.an
  have h3 := h.nN
  refine ⟨?_, ?_, ?_, ?_, ?_, ?_, ?_, ?_, ?_⟩ <;> simp only [SS.o] <;> omega
theorem ok_i {N : Nat} {s : SS} (h : Safe N s) (hN : N ≤ 60) : s.i.Ok := by
  have h2 := h.an
  have h3 := h.nN
  refine ⟨?_, ?_, ?_, ?_, ?_, ?_⟩ <;> simp only [SS.i] <;> omega
theorem start_x {w0 w : World} {go gi : Nat} (ho : At w go 95 (OSt.cells ⟨0, 1, 0, 0, 0⟩)) (hi : At w gi 84 (ISt.cells ⟨1, 0, 0⟩)) (hc : Chg [] w0 w) (g0 : w0.heap.size ≤ go) (i0 : w0.heap.size ≤ gi) : MtX w0 w go gi none 0 [] ⟨0, 0, 0, 0, []⟩ :=
  ⟨rfl, ho, hi, Qu.nil _ _ _ _ _, (fun x hx => by cases hx), hc, (fun h => absurd h (by omega)), g0, i0⟩
theorem one_msg {ms : List MgV} {m : QM} (h : ms.map MgV.p = [m.p]) : ∃ x : MgV, ms = [x] ∧ x.p = m.p := by
  cases ms with
  | nil => cases h
  | cons x t =>
    rw [List.map_cons] at h
    injection h with h1 h2
    exact ⟨x, by rw [List.map_eq_nil_iff.1 h2], h1⟩
set_option maxRecDepth 100000 in
set_option maxHeartbeats 25600000 in
theorem streamComes_law (w : World) (n : Int) (hn : (Lit.int .i64 n).wf = true) (y : Sl Int) (hy : Rd w 1 y.A y.ls.length (y.ls.flatMap fun z => [.int .i64 z]) ∧ y.ls.length ≤ y.c ∧ y.c ≤ maxLen ∧ y.ls.length * 8 ≤ 140737488351232 ∧ ∀ z ∈ y.ls, (Lit.int .i64 z).wf = true) :
    Calls Try.prog 8 #[.int .i64 n, .slice y.A y.ls.length y.c] w fun e w' => e = .returned (.bool true) ∧ Chg [] w w' := by
  obtain ⟨A, c, ls⟩ := y
  obtain ⟨hyr, _, _, hyl, _⟩ := hy
  simp only at hyl
  have HYR : Hid (Rd w 1 A ls.length (ls.flatMap fun z => [.int .i64 z])) := hyr
  have hll : ls.length ≤ 140737488351232 := by omega
  clear hyr hyl
  obtain ⟨i1, hi1, hy0, hy1, hy2⟩ := info_parts info_msgS
  show Calls Try.prog 8 #[.int .i64 n, .slice A ls.length c] w _
  go_enter Try.func8, Try.ntmps8
  by_cases h1 : n < 0
  · have h1i : decide (n < 0) = true := decide_eq_true h1
    clear h1
    go_wp2_with (fail)
    (with_reducible refine (knownL_any _).mono ?_)
    rintro e wk ⟨rfl, hck⟩
    go_wp2_with (fail)
    go_ret
    exact ⟨rfl, hck⟩
  have h1i : decide (n < 0) = false := decide_eq_false h1
  by_cases h2 : 60 < n
  · have h2i : decide (60 < n) = true := decide_eq_true h2
    clear h1 h2
    go_wp2_with (fail)
    (with_reducible refine (knownL_any _).mono ?_)
    rintro e wk ⟨rfl, hck⟩
    go_wp2_with (fail)
    go_ret
    exact ⟨rfl, hck⟩
  have h2i : decide (60 < n) = false := decide_eq_false h2
  by_cases h3 : 200 < ls.length
  · have h3i : decide ((200 : Int) < (ls.length : Int)) = true := decide_eq_true (by omega)
    clear h1 h2 h3
    go_wp2_with (fail)
    (with_reducible refine (knownL_any _).mono ?_)
    rintro e wk ⟨rfl, hck⟩
    go_wp2_with (fail)
    go_ret
    exact ⟨rfl, hck⟩
  have h3i : decide ((200 : Int) < (ls.length : Int)) = false := decide_eq_false (by omega)
  obtain ⟨N, rfl⟩ : ∃ N : Nat, n = (N : Int) := ⟨n.toNat, by omega⟩
  have hN : N ≤ 60 := by omega
  have hL : ls.length ≤ 200 := by omega
  clear h1 h2 h3 hn
  have way1 : Hid (isWayS 0 1 0 = true) := Lib.hid (by decide)
  have way2 : Hid (isWayS 1 0 0 = true) := Lib.hid (by decide)
  go_wp2_with (fail)
  (with_reducible refine (newOut_yes _ 0 1 0 way1.out).mono ?_)
  rintro e w2 ⟨go, rfl, hgo, hO2, hc2⟩
  go_wp2_with (fail)
  (with_reducible refine (newIn_yes _ 1 0 0 way2.out).mono ?_)
  rintro e w3 ⟨gi, rfl, hgi, hI3, hc3⟩
  have HX0 := Lib.hid (start_x (w0 := w) (hO2.keep hc3 (by simp)) hI3 (hc2.trans hc3 (by simp)) hgo (Nat.le_trans hc2.size hgi))
  clear hgo hO2 hc2 hgi hI3 hc3 way1 way2 h1i h2i h3i
  go_wp2_with (fail)
  go_loopw [11, 9, 10] (fun iv u cm wr => ∃ (i : Nat) (B : Option Addr) (b : Nat) (ms : List MgV), i ≤ ls.length + 150 ∧ iv = .int .i64 i ∧ u = .slice B ms.length b ∧ cm = .int .i64 (((runS N (wxS ls) i).a : Nat) : Int) ∧ Hid (MtX w wr go gi B b ms (runS N (wxS ls) i))) (fun iv _ _ _ => ls.length + 150 - (intOf iv).toNat)
  case atStart => exact ⟨0, none, 0, [], Nat.zero_le _, rfl, rfl, rfl, HX0.out⟩
  case round =>
    clear HX0
    obtain ⟨i, B, b, ms, hi, rfl, rfl, rfl, HX⟩ := hrel
    by_cases hlt : i < ls.length + 150
    · have hii : (i : Int) < (ls.length : Int) + 150 := by omega
      have HS := Lib.hid (Safe.run N (wxS ls) i)
      have HT := Lib.hid (t_run N (wxS ls) i)
      have HQL := Lib.hid (len_run N (wxS ls) i)
      have HNX : Hid (runS N (wxS ls) (i + 1) = stepS N (wxS ls i) (runS N (wxS ls) i)) := rfl
      obtain ⟨hand, hm3⟩ := wx_and ls i
      generalize runS N (wxS ls) i = s at *
      generalize wxS ls i = mm at *
      go_upto_if 66 with (fail)
      go_cut [12] from 66 to 70 (fun s12 wx => s12 = .int .i64 (ls.getD i 0) ∧ wx = wr)
      case first =>
        by_cases hli : i < ls.length
        · have hlii : (i : Int) < (ls.length : Int) := by omega
          have hi0 : (0 : Int) ≤ (i : Int) := by omega
          obtain ⟨ad, z, hAd, _, hz, hz2⟩ := (HYR.out.keep0 HX.out.chg).get hli
          have hz3 : ls.getD i 0 = ls[i] := by rw [List.getD_eq_getElem?_getD, List.getElem?_eq_getElem hli]; rfl
          have hz4 : (ls.flatMap fun z => [Value.int .i64 z])[i]? = some (.int .i64 ls[i]) := by
            rw [cInt_get, List.getElem?_eq_getElem hli]; rfl
          rw [hz4] at hz
          obtain rfl : z = .int .i64 ls[i] := by injection hz with h; exact h.symm
          clear hz hz4
          subst hAd
          have HZ3 := Lib.hid hz3
          clear hz3
          generalize ls[i] = zz at *
          go_wp2_with (fail)
          go_meet
          exact ⟨by rw [HZ3.out], rfl⟩
        · have hlii : ¬ (i : Int) < (ls.length : Int) := by omega
          have hz3 : ls.getD i 0 = 0 := by rw [List.getD_eq_getElem?_getD, List.getElem?_eq_none (by omega)]; rfl
          have HZ3 := Lib.hid hz3
          clear hz3
          go_wp2_with (fail)
          go_meet
          exact ⟨by rw [HZ3.out], rfl⟩
      case rest =>
      obtain ⟨rfl, rfl⟩ := hcut
      first | generalize wc = wr at * | skip
      generalize ls.getD i 0 = xv at *
      have HTK := Lib.hid (tick_any wr go s.o HX.out.o ⟨by show (0 : Int) ≤ (s.t : Int); omega, by have := HT.out; show (s.t : Int) ≤ _; omega⟩)
      rw [tick_o] at HTK
      go_wp2_with (fail)
      refine HTK.out.mono ?_
      rintro e w4 ⟨rfl, ho4, hc4⟩
      have HX1 := Lib.hid (HX.out.setO hc4 ho4 (tick_i s).2.2 (tick_i s).2.1)
      have HS1 := Lib.hid HS.out.tick
      have HT1 : Hid ((tickS s).t ≤ 1000) := by
        have h1 : (tickS s).t ≤ s.t + 1 := by unfold tickS; split <;> simp
        have := HT.out
        show _ ≤ _; omega
      have ha1 : s.a = (tickS s).a := (tick_i s).2.2.symm
      have HQ1 : Hid ((tickS s).q.length ≤ 2 * i) := by show _ ≤ _; rw [(tick_i s).2.1]; exact HQL.out
      have HNX1 : Hid (runS N (wxS ls) (i + 1) = (if mm = 3 then weatherS mm (sendS N (tickS s)) else delN 10 (weatherS mm (sendS N (tickS s))))) := HNX.out
      clear HX HS HT HQL HNX HTK ho4 hc4
      rw [ha1]
      clear ha1
      generalize tickS s = s1 at *
      have HND := Lib.hid (need_any w4 go s1.o HX1.out.o (ok_o HS1.out hN HT1.out) (N : Int))
      have HNC := Lib.hid (need_cases N s1 HS1.out)
      obtain ⟨F, HF⟩ : ∃ F, Hid (needO s1.o (N : Int) = F) := ⟨_, Lib.hid rfl⟩
      obtain ⟨F, D⟩ := F
      rw [HF.out] at HND HNC
      go_wp2_with (fail)
      refine HND.out.mono ?_
      rintro e w5 ⟨rfl, hc5⟩
      have HX5 := Lib.hid (HX1.out.quiet hc5)
      clear HX1 HND hc5
      simp only
      go_upto_if 79 with (fail)
      go_cut [9, 15, 16] from 79 to 96 (fun s9 _ _ wx => ∃ (B : Option Addr) (b : Nat) (ms : List MgV), s9 = .slice B ms.length b ∧ Hid (MtX w wx go gi B b ms (sendS N s1)))
      case first =>
        rcases HNC.out with ⟨f, hF, hsend, hf1, hf2, hf3⟩ | ⟨hF, hsend⟩
        · injection hF with e1 e2
          subst e1 e2
          have HSND := Lib.hid hsend
          have hmin : Hid ((min 8 ((N : Int) - (f : Int) + 1)).toNat = cntS N f) := by unfold Hid cntS; omega
          have HSN := Lib.hid (send_o (s := s1) hN hf1 hf2 hf3)
          clear HNC hsend HF
          go_wp2_with (fail)
          (with_reducible refine (some_any _ 0 (f : Int) _ (by omega) (by omega) (by omega)).mono ?_)
          rintro e w6 ⟨A6, c6, l6, rfl, hl6, hown6, hv6, hc6⟩
          rw [hmin.out] at hl6
          have HX6 := Lib.hid (HX5.out.quiet hc6)
          have HSE := Lib.hid (send_any w6 go s1.o HX6.out.o (ok_o HS1.out hN HT1.out) A6 _ c6 l6 rfl (Rd.of_own hown6) (fun x hx => (hv6.out x hx).rd) (by
            have := congrArg List.length hl6.out
            rw [List.length_map, someL_len] at this
            unfold cntS at this
            omega))
          rw [hl6.out, HSN.out] at HSE
          clear hl6 hown6 hv6 hc6 HX5
          go_wp2_with (fail)
          refine HSE.out.mono ?_
          rintro e w7 ⟨A7, c7, m7, rfl, hm7, hn7, ho7, hc7⟩
          obtain ⟨x7, rfl, hx7⟩ := one_msg (m := ⟨true, f, cntS N f⟩) hm7.1.out
          have HX7 := Lib.hid (HX6.out.setO (s' := { putS N f s1 with q := s1.q }) hc7 ho7 rfl rfl)
          have HD7 : Hid (Rd w7 1 x7.A x7.d.length (cB x7.d) ∧ x7.d.length ≤ x7.cp ∧ (0 < x7.d.length → ∀ k ∈ blk x7.A, k ≠ go ∧ k ≠ gi ∧ (0 < b → k ∉ blk B))) := by
            refine ⟨hm7.2.2 x7 (by simp), hn7.2.2 x7 (by simp), fun h0 k hk => ?_⟩
            have h1 := hn7.2.1 x7 (by simp) h0 k hk
            have h2 := HX6.out.o.lt
            have h3 := HX6.out.i.lt
            refine ⟨by omega, by omega, fun hb hm => ?_⟩
            have := HX6.out.qu.lt hb k hm
            omega
          have HR7 := Lib.hid hm7.2.1
          have hw7 : w.heap.size ≤ w7.heap.size := HX7.out.chg.size
          have hml : ms.length ≤ 1000 := by rw [HX7.out.len]; have := HQ1.out; show s1.q.length ≤ _; omega
          clear hm7 hn7 ho7 hc7 HX6 HSE HSN hmin
          simp only [List.length_singleton]
          go_wp2_with (at_builtin; refine wpList_append_qu _ rfl (.tmp 94) (.tmp 95) 39 (by rfl) w.heap.size 63 i1 _ 3 40 Try.underlying39 hi1 hy0 hy1 hy2 rfl (by omega) B ms.length b (cMg ms) (by rfl) HX7.out.qu A7 1 c7 (cMg [x7]) (by omega) (by rfl) HR7.out (cMg_one _) (by unfold maxLen; omega) (by omega) hw7 ?_; intro A8 c8 w8 hq8 hc8 hA8 _)
          go_meet
          refine ⟨A8, c8, ms ++ [x7], by rw [List.length_append]; rfl, Lib.hid ?_⟩
          rw [HSND.out]
          exact HX7.out.push (xs := [x7]) (qs := [⟨true, f, cntS N f⟩]) (by rw [List.map_cons, List.map_cons, hx7]; rfl) (fun x hx => by obtain rfl := List.mem_singleton.1 hx; exact HD7.out) hq8 hc8 hA8
        · injection hF with e1 e2
          subst e1 e2
          have HSND := Lib.hid hsend
          clear hsend
          go_wp2_with (fail)
          go_meet
          exact ⟨B, b, ms, rfl, by rw [HSND.out]; exact HX5⟩
      case rest =>
      obtain ⟨B, b, ms, rfl, HX⟩ := hcut
      generalize wc = wr at *
      have HS2 := Lib.hid HS1.out.send
      have HQ2 : Hid ((sendS N s1).q.length ≤ 2 * i + 1) := Nat.le_trans (len_send N s1) (Nat.succ_le_succ HQ1.out)
      have ha2 : s1.a = (sendS N s1).a := by unfold sendS; split; rfl; split <;> rfl
      rw [ha2]
      clear HX5 HNC HF HS1 HT1 HQ1 ha2
      generalize sendS N s1 = s2 at *
      go_upto_region 22 with (fail)
      go_cut [104] from 97 to 103 (fun s104 wx => s104 = .bool (decide (mm = 1 ∧ 0 < ms.length)) ∧ wx = wr)
      case first =>
        by_cases hmm : mm = 1
        · have hand1 : bits .and .i64 xv 3 = 1 := by rw [hand, hmm]; rfl
          clear hand
          cases ms with
          | nil =>
            go_wp2_with (fail)
            go_meet
            exact ⟨by simp, rfl⟩
          | cons x ms =>
            have hpos : (0 : Int) < (ms.length : Int) + 1 := by omega
            have hdd : decide (mm = 1 ∧ 0 < (x :: ms).length) = true := decide_eq_true ⟨hmm, by simp⟩
            have HDD := Lib.hid hdd
            clear hdd
            clear hmm
            go_wp2_with (fail)
            go_meet
            exact ⟨by rw [HDD.out], rfl⟩
        · have hmi : ((mm : Int) == 1) = false := by rw [beq_eq_false_iff_ne]; omega
          have hdd : decide (mm = 1 ∧ 0 < ms.length) = false := decide_eq_false (fun h => hmm h.1)
          have HDD := Lib.hid hdd
          clear hdd
          go_wp2_with (fail)
          go_meet
          exact ⟨by rw [HDD.out], rfl⟩
      case rest =>
      obtain ⟨rfl, rfl⟩ := hcut
      first | generalize wc = wr at * | skip
      go_upto_if 104 with (fail)
      go_cut [9] from 104 to 106 (fun s9 wx => ∃ (B : Option Addr) (b : Nat) (ms : List MgV), s9 = .slice B ms.length b ∧ Hid (MtX w wx go gi B b ms (wA mm s2)))
      case first =>
        by_cases hc : mm = 1 ∧ 0 < ms.length
        · have hdd : decide (mm = 1 ∧ 0 < ms.length) = true := decide_eq_true hc
          obtain ⟨hmm, hc0⟩ := hc
          cases ms with
          | nil => exact absurd hc0 (by simp)
          | cons x ms =>
            obtain ⟨qm, qr, hqq⟩ : ∃ m r, s2.q = m :: r := by
              cases hq : s2.q with
              | nil => have := HX.out.len; rw [hq] at this; simp at this
              | cons m r => exact ⟨m, r, rfl⟩
            have HP := Lib.hid (HX.out.pop hqq).2
            have hcap := HX.out.qu.cap
            simp only [List.length_cons] at hcap
            have sl : ∀ w : World, (Instr.slice 39 (.slice B (ms.length + 1) b) (some (.int .i64 (1 : Int))) none none).run Try.prog w = .ok (.slice (cutA B b 1 3) ms.length (b - 1)) w := fun w => by
              have h := run_slice_lo (P := Try.prog) w Try.underlying39 hi1 hy1 B (ms.length + 1) b 1 1 rfl (by omega)
              rwa [Nat.add_sub_cancel] at h
            rw [hdd]
            have e : wA mm s2 = { s2 with q := qr } := by unfold wA; rw [if_pos hmm, hqq]; rfl
            have HE := Lib.hid e
            clear hdd hmm hc0 e
            go_wp2_with (fail)
            go_meet
            exact ⟨_, _, ms, rfl, by rw [HE.out]; exact HP⟩
        · have hdd : decide (mm = 1 ∧ 0 < ms.length) = false := decide_eq_false hc
          rw [hdd]
          have e : wA mm s2 = s2 := by
            by_cases hmm : mm = 1
            · have hq : s2.q = [] := List.eq_nil_of_length_eq_zero (by have := HX.out.len; have h2 : ¬ 0 < ms.length := fun h => hc ⟨hmm, h⟩; omega)
              exact wA_nil hq mm
            · unfold wA; rw [if_neg hmm]
          have HE := Lib.hid e
          clear hdd hc e
          go_wp2_with (fail)
          go_meet
          exact ⟨B, b, ms, rfl, by rw [HE.out]; exact HX⟩
      case rest =>
      obtain ⟨B, b, ms, rfl, HXa⟩ := hcut
      generalize wc = wr2 at *
      have HS3 : Hid (Safe N (wA mm s2)) := by
        unfold Hid wA
        split
        · exact HS2.out.sub (fun m hm => List.mem_of_mem_drop hm)
        · exact HS2.out
      have HQ3 : Hid ((wA mm s2).q.length ≤ 2 * i + 1) := by
        unfold Hid wA
        split
        · show (s2.q.drop 1).length ≤ _; rw [List.length_drop]; have := HQ2.out; omega
        · exact HQ2.out
      have HAB := Lib.hid (wAB mm s2)
      have ha3 : s2.a = (wA mm s2).a := by unfold wA; split <;> rfl
      rw [ha3]
      clear HX ha3 HQ2
      generalize wA mm s2 = s3 at *
      go_upto_region 24 with (fail)
      go_cut [119] from 107 to 118 (fun s119 wx => s119 = .bool (decide (mm = 2 ∧ 0 < ms.length ∧ ms.length < 50)) ∧ wx = wr2)
      case first =>
        by_cases hmm : mm = 2
        · have hand1 : bits .and .i64 xv 3 = 2 := by rw [hand, hmm]; rfl
          clear hand
          cases ms with
          | nil =>
            go_wp2_with (fail)
            go_meet
            exact ⟨by simp, rfl⟩
          | cons x ms =>
            have hpos : (0 : Int) < (ms.length : Int) + 1 := by omega
            by_cases h50 : ms.length + 1 < 50
            · have h50i : (ms.length : Int) + 1 < 50 := by omega
              have hdd : decide (mm = 2 ∧ 0 < (x :: ms).length ∧ (x :: ms).length < 50) = true := decide_eq_true ⟨hmm, by simp, h50⟩
              have HDD := Lib.hid hdd
              clear hdd
              clear hmm h50
              go_wp2_with (fail)
              go_meet
              exact ⟨by rw [HDD.out], rfl⟩
            · have h50i : ¬ (ms.length : Int) + 1 < 50 := by omega
              have hdd : decide (mm = 2 ∧ 0 < (x :: ms).length ∧ (x :: ms).length < 50) = false := decide_eq_false (fun h => h50 h.2.2)
              have HDD := Lib.hid hdd
              clear hdd
              clear hmm h50
              go_wp2_with (fail)
              go_meet
              exact ⟨by rw [HDD.out], rfl⟩
        · have hmi : ((mm : Int) == 2) = false := by rw [beq_eq_false_iff_ne]; omega
          have hdd : decide (mm = 2 ∧ 0 < ms.length ∧ ms.length < 50) = false := decide_eq_false (fun h => hmm h.1)
          have HDD := Lib.hid hdd
          clear hdd
          go_wp2_with (fail)
          go_meet
          exact ⟨by rw [HDD.out], rfl⟩
      case rest =>
      obtain ⟨rfl, rfl⟩ := hcut
      first | generalize wc = wr2 at * | skip
      go_upto_if 119 with (fail)
      go_cut [9] from 119 to 129 (fun s9 wx => ∃ (B : Option Addr) (b : Nat) (ms : List MgV), s9 = .slice B ms.length b ∧ Hid (MtX w wx go gi B b ms (wB mm s3)))
      case first =>
        by_cases hc : mm = 2 ∧ 0 < ms.length ∧ ms.length < 50
        · have hdd : decide (mm = 2 ∧ 0 < ms.length ∧ ms.length < 50) = true := decide_eq_true hc
          obtain ⟨hmm, hc0, h50⟩ := hc
          cases ms with
          | nil => exact absurd hc0 (by simp)
          | cons x ms =>
              rw [hdd]
              clear hdd
              obtain ⟨qm, qr, hqq⟩ : ∃ m r, s3.q = m :: r := by
                cases hq : s3.q with
                | nil => have := HXa.out.len; rw [hq] at this; simp at this
                | cons m r => exact ⟨m, r, rfl⟩
              have hqlen : s3.q.length = ms.length + 1 := by rw [← HXa.out.len]; rfl
              simp only [List.length_cons] at h50
              have HPP := Lib.hid (HXa.out.pop hqq).2
              have hxp := (HXa.out.pop hqq).1
              have HDT := Lib.hid (HXa.out.dat x List.mem_cons_self)
              have hcap := HXa.out.qu.cap
              simp only [List.length_cons] at hcap
              obtain ⟨ad, hAd, had, e0, e1, e2⟩ := HXa.out.qu.rd.getM (k := 0) (by simp)
              rw [Nat.zero_mul, add_zero] at e0 e1 e2
              simp only [List.getElem_cons_zero] at e0 e1 e2
              obtain ⟨gq, kq, hgq⟩ := HXa.out.qu.form (by simp)
              have HAD : Hid (ad = ⟨gq, kq * 3, none⟩) := by rw [hAd] at hgq; injection hgq
              clear hgq
              subst hAd
              obtain ⟨xf, xt, xd, xA, xp⟩ := x
              have HPQ : Hid (List.map MgV.p [(⟨xf, xt, xd, xA, xp⟩ : MgV), ⟨xf, xt, xd, xA, xp⟩] = List.map QM.p [qm, qm]) := by
                unfold Hid
                rw [List.map_cons, List.map_cons, List.map_cons, List.map_cons, hxp]; rfl
              simp only at e0 e1 e2 HDT
              have e : wB mm s3 = { s3 with q := qr ++ [qm, qm] } := by unfold wB; rw [if_pos ⟨hmm, by omega⟩, hqq]; rfl
              have HE := Lib.hid e
              have sl : ∀ w : World, (Instr.slice 39 (.slice (some ad) (ms.length + 1) b) (some (.int .i64 (1 : Int))) none none).run Try.prog w = .ok (.slice (cutA (some ad) b 1 3) ms.length (b - 1)) w := fun w => by
                have h := run_slice_lo (P := Try.prog) w Try.underlying39 hi1 hy1 (some ad) (ms.length + 1) b 1 1 rfl (by omega)
                rwa [Nat.add_sub_cancel] at h
              have hi00 : (0 : Int) < (ms.length : Int) + 1 := by omega
              have hms50 : ms.length ≤ 50 := by omega
              clear e hqlen hxp hqq h50 HXa hmm hc0
              go_upto_region 25 with (fail)
              have KK : Hid (∀ w', Chg [] wr2 w' → w'.cell? ad = some (.int .i64 xf) ∧ w'.cell? ⟨ad.block, ad.off + 1, none⟩ = some (.int .i64 xt) ∧ w'.cell? ⟨ad.block, ad.off + 2, none⟩ = some (.slice xA xd.length xp)) := fun w' hc => ⟨(hc.cell had (by simp)).trans e0, (hc.cell (p := ⟨ad.block, ad.off + 1, none⟩) had (by simp)).trans e1, (hc.cell (p := ⟨ad.block, ad.off + 2, none⟩) had (by simp)).trans e2⟩
              clear e0 e1 e2
              generalize wr2 = wz at *
              refine wp_regionE 10 (fun w' => w'.cell? ad = some (.int .i64 xf) ∧ w'.cell? ⟨ad.block, ad.off + 1, none⟩ = some (.int .i64 xt) ∧ w'.cell? ⟨ad.block, ad.off + 2, none⟩ = some (.slice xA xd.length xp)) (by kernel_rfl) ?_ (fun hHeld => ?_)
              · exact KK.out _ ((Chg.refl [] wz).drew)
              have HDR : Hid (Chg [] wz wz.drew) := (Chg.refl [] wz).drew
              generalize wz.drew = wd at *
              refine takeWE (i := 0) (d := (some 120)) (v := ?_) rfl rfl (by kernel_rfl) (by kernel_rfl) (by kernel_rfl) (by kernel_rfl) (by kernel_rfl) (fun _ _ _ h => h) (by rfl) ?_ (by assumption) ?_
              rotate_left
              · intro w' hSw; (try dsimp only at hSw); go_simp; try with_reducible rfl
              try simp only [Act.put, List.setIfInBounds_toArray, List.set_cons_zero, List.set_cons_succ]
              refine takeWE (i := 1) (d := (some 121)) (v := ?_) rfl rfl (by kernel_rfl) (by kernel_rfl) (by kernel_rfl) (by kernel_rfl) (by kernel_rfl) (fun _ _ _ h => h) (by rfl) ?_ (by assumption) ?_
              rotate_left
              · intro w' hSw; (try dsimp only at hSw); go_simp; try with_reducible rfl
              try simp only [Act.put, List.setIfInBounds_toArray, List.set_cons_zero, List.set_cons_succ]
              refine takeWE (i := 2) (d := (some 122)) (v := ?_) rfl rfl (by kernel_rfl) (by kernel_rfl) (by kernel_rfl) (by kernel_rfl) (by kernel_rfl) (fun _ _ _ h => h) (by rfl) ?_ (by assumption) ?_
              rotate_left
              · intro w' hSw; (try dsimp only at hSw); go_simp; try with_reducible rfl
              try simp only [Act.put, List.setIfInBounds_toArray, List.set_cons_zero, List.set_cons_succ]
              refine takeWE (i := 3) (d := (some 123)) (v := ?_) rfl rfl (by kernel_rfl) (by kernel_rfl) (by kernel_rfl) (by kernel_rfl) (by kernel_rfl) (fun _ _ _ h => h) (by rfl) ?_ (by assumption) ?_
              rotate_left
              · intro w' hSw; (try dsimp only at hSw); go_simp; try with_reducible rfl
              try simp only [Act.put, List.setIfInBounds_toArray, List.set_cons_zero, List.set_cons_succ]
              refine takeWE (i := 4) (d := (some 124)) (v := ?_) rfl rfl (by kernel_rfl) (by kernel_rfl) (by kernel_rfl) (by kernel_rfl) (by kernel_rfl) (fun _ _ _ h => h) (by rfl) ?_ (by assumption) ?_
              rotate_left
              · intro w' hSw; (try dsimp only at hSw); go_simp; try with_reducible rfl
              try simp only [Act.put, List.setIfInBounds_toArray, List.set_cons_zero, List.set_cons_succ]
              refine takeWE (i := 5) (d := (some 125)) (v := ?_) rfl rfl (by kernel_rfl) (by kernel_rfl) (by kernel_rfl) (by kernel_rfl) (by kernel_rfl) (fun _ _ _ h => h) (by rfl) ?_ (by assumption) ?_
              rotate_left
              · intro w' hSw; (try dsimp only at hSw); go_simp; try with_reducible rfl
              try simp only [Act.put, List.setIfInBounds_toArray, List.set_cons_zero, List.set_cons_succ]
              refine takeWE (i := 6) (d := (some 126)) (v := ?_) rfl rfl (by kernel_rfl) (by kernel_rfl) (by kernel_rfl) (by kernel_rfl) (by kernel_rfl) (fun _ _ _ h => h) (by rfl) ?_ (by assumption) ?_
              rotate_left
              · intro w' hSw; (try dsimp only at hSw); go_simp; try with_reducible rfl
              try simp only [Act.put, List.setIfInBounds_toArray, List.set_cons_zero, List.set_cons_succ]
              refine takeWE (i := 7) (d := (some 127)) (v := ?_) rfl rfl (by kernel_rfl) (by kernel_rfl) (by kernel_rfl) (by kernel_rfl) (by kernel_rfl) (fun _ _ _ h => h) (by rfl) ?_ (by assumption) ?_
              rotate_left
              · intro w' hSw; (try dsimp only at hSw); go_simp; try with_reducible rfl
              try simp only [Act.put, List.setIfInBounds_toArray, List.set_cons_zero, List.set_cons_succ]
              refine wpE_ready (rs := [8]) (by kernel_rfl) (by simp) ?_
              refine AllE.cons rfl (fun K hK => ?_) (AllE.nil)
              go_simp
              go_wp2_with (fail)
              have HC8 : Hid (Chg [] wz (wd.alloc (.cells #[.int .i64 xf, .int .i64 xt, .slice xA xd.length xp, .int .i64 xf, .int .i64 xt, .slice xA xd.length xp] 63))) := HDR.out.alloc _
              have HR8 : Hid (Rd (wd.alloc (.cells #[.int .i64 xf, .int .i64 xt, .slice xA xd.length xp, .int .i64 xf, .int .i64 xt, .slice xA xd.length xp] 63)) 3 (some ⟨wd.heap.size, 0, none⟩) 2 (cMg [⟨xf, xt, xd, xA, xp⟩, ⟨xf, xt, xd, xA, xp⟩])) := Rd.new' rfl rfl rfl
              generalize wd.heap.size = g8 at *
              generalize wd.alloc (.cells #[.int .i64 xf, .int .i64 xt, .slice xA xd.length xp, .int .i64 xf, .int .i64 xt, .slice xA xd.length xp] 63) = w8 at *
              have HP8 := Lib.hid (HPP.out.quiet HC8.out)
              have hbz : w.heap.size ≤ w8.heap.size := HP8.out.chg.size
              refine hK.out _ _ ?_ (fun hHeld => ?_)
              · exact KK.out _ HC8.out
              clear hK K
              try simp only [Act.put, List.setIfInBounds_toArray, List.set_cons_zero, List.set_cons_succ]
              refine wpE_ready (rs := [9]) (by kernel_rfl) (by simp) ?_
              refine AllE.cons rfl (fun K hK => ?_) (AllE.nil)
              refine wp_append_qu _ (.tmp 121) (.tmp 128) 39 (by rfl) w.heap.size 63 i1 _ 3 40 Try.underlying39 hi1 hy0 hy1 hy2 rfl (by omega) (cutA (some ad) b 1 3) ms.length (b - 1) (cMg ms) (by simp [Act.eval, Act.put]) HP8.out.qu (some ⟨g8, 0, none⟩) 2 2 (cMg [⟨xf, xt, xd, xA, xp⟩, ⟨xf, xt, xd, xA, xp⟩]) (by omega) (by simp [Act.eval, Act.put]) HR8.out (cMg_one _) (by unfold maxLen; omega) (by omega) hbz ?_
              intro A9 c9 w9 hq9 hch9 hA9 hB9
              have HP9 := Lib.hid (HP8.out.push (xs := [⟨xf, xt, xd, xA, xp⟩, ⟨xf, xt, xd, xA, xp⟩]) (qs := [qm, qm]) HPQ.out (fun x hx => by
                have e : x = ⟨xf, xt, xd, xA, xp⟩ := by simp at hx; exact hx
                subst e
                exact ⟨HDT.out.1.keep0 HC8.out, HDT.out.2.1, fun hn k hk => ⟨(HDT.out.2.2 hn k hk).1, (HDT.out.2.2 hn k hk).2.1, fun hb => by rw [cutA_blk]; exact (HDT.out.2.2 hn k hk).2.2 (by omega)⟩⟩) hq9 hch9 hA9)
              have hk9 := head_keep HAD.out (by omega) (Nat.lt_of_lt_of_le had HC8.out.size) hch9 hB9
              have k8 := KK.out _ HC8.out
              have KL : Hid (w9.cell? ad = some (.int .i64 xf) ∧ w9.cell? ⟨ad.block, ad.off + 1, none⟩ = some (.int .i64 xt) ∧ w9.cell? ⟨ad.block, ad.off + 2, none⟩ = some (.slice xA xd.length xp)) := ⟨by have h0 := hk9 0 (by omega); have ha : (⟨ad.block, ad.off + 0, none⟩ : Addr) = ad := (by rw [HAD.out]; rfl); rw [ha] at h0; exact h0.trans k8.1, (hk9 1 (by omega)).trans k8.2.1, (hk9 2 (by omega)).trans k8.2.2⟩
              clear hq9 hch9 hA9 hB9 hk9 k8
              refine hK.out _ _ ?_ (fun hHeld => ?_)
              · exact KL.out
              clear hK K
              try simp only [Act.put, List.setIfInBounds_toArray, List.set_cons_zero, List.set_cons_succ]
              refine wpE_ready (rs := [10]) (by kernel_rfl) (by simp) ?_
              refine AllE.last rfl (by kernel_rfl) (fun K hK => ?_)
              go_simp
              go_wp2_with (fail)
              refine hK.out _ _ ?_
              clear hK K hHeld
              go_wp2_with (fail)
              go_meet
              refine ⟨A9, c9, ms ++ [⟨xf, xt, xd, xA, xp⟩, ⟨xf, xt, xd, xA, xp⟩], by rw [List.length_append]; rfl, Lib.hid ?_⟩
              rw [HE.out]
              exact HP9.out
        · have hdd : decide (mm = 2 ∧ 0 < ms.length ∧ ms.length < 50) = false := decide_eq_false hc
          rw [hdd]
          have e : wB mm s3 = s3 := by
            by_cases hmm : mm = 2 ∧ s3.q.length < 50
            · have hl := HXa.out.len
              have hq : s3.q = [] := List.eq_nil_of_length_eq_zero (by have h2 : ¬ (0 < ms.length ∧ ms.length < 50) := fun h => hc ⟨hmm.1, h⟩; have h3 := hmm.2; omega)
              exact wB_nil hq mm
            · unfold wB; rw [if_neg hmm]
          have HE := Lib.hid e
          clear hdd hc e
          go_wp2_with (fail)
          go_meet
          exact ⟨B, b, ms, rfl, by rw [HE.out]; exact HXa⟩
      case rest =>
      obtain ⟨B, b, ms, rfl, HXb⟩ := hcut
      generalize wc = wr3 at *
      have HS4 : Hid (Safe N (wB mm s3)) := by
        unfold Hid wB
        split
        · exact HS3.out.sub (fun m hm => twiceQ_mem hm)
        · exact HS3.out
      have HQ4 : Hid ((wB mm s3).q.length ≤ 2 * i + 2) := by
        unfold Hid wB
        have := HQ3.out
        split
        · show (twiceQ s3.q).length ≤ _
          cases hq : s3.q with
          | nil => simp [twiceQ]
          | cons m r => rw [hq] at this; simp [twiceQ] at this ⊢; omega
        · omega
      have HFIN : Hid (runS N (wxS ls) (i + 1) = (if mm = 3 then wB mm s3 else delN 10 (wB mm s3))) := by
        rw [HAB.out]; exact HNX1.out
      have ha4 : s3.a = (wB mm s3).a := by unfold wB; split <;> rfl
      rw [ha4]
      clear HXa ha4 HQ3 HS3 HAB HNX1 HS2
      generalize wB mm s3 = s4 at *
      generalize hfin : runS N (wxS ls) (i + 1) = fin at *
      have HFN := Lib.hid hfin
      clear hfin
      go_wp2_with (fail)
      go_loopw [17, 9, 10] (fun jv u cm wr => ∃ (j : Nat) (B : Option Addr) (b : Nat) (ms : List MgV) (s : SS), j ≤ 10 ∧ jv = .int .i64 j ∧ u = .slice B ms.length b ∧ cm = .int .i64 (s.a : Int) ∧ Hid (MtX w wr go gi B b ms s) ∧ Hid (Safe N s) ∧ Hid (s.q.length ≤ 2 * i + 2) ∧ Hid ((mm = 3 ∧ s = fin) ∨ (mm ≠ 3 ∧ delN (10 - j) s = fin))) (fun jv _ _ _ => 10 - (intOf jv).toNat)
      case atStart =>
        refine ⟨0, B, b, ms, s4, Nat.zero_le _, rfl, rfl, rfl, HXb.out, HS4.out, HQ4.out, ?_⟩
        by_cases h3 : mm = 3
        · exact .inl ⟨h3, by rw [HFIN.out, if_pos h3]⟩
        · exact .inr ⟨h3, by rw [HFIN.out, if_neg h3]⟩
      case round =>
        clear HXb HS4 HQ4 HFIN
        obtain ⟨j, B, b, ms, s, hj, rfl, rfl, rfl, HX, HS, HQ, HD⟩ := hrel
        have EXIT : Hid ((j = 10 ∨ ms = [] ∨ mm = 3) → s = fin) := fun h => by
          rcases HD.out with ⟨h3, e⟩ | ⟨h3, e⟩
          · exact e
          · rcases h with rfl | rfl | h
            · exact e
            · rw [← e, delN_nil (List.eq_nil_of_length_eq_zero HX.out.len.symm)]
            · exact absurd h h3
        by_cases hj10 : j = 10
        · have hjj : ¬ (j : Int) < 10 := by omega
          have hs := EXIT.out (.inl hj10)
          subst hs
          clear EXIT
          go_wp2_with (fail)
          go_roundw
          case rel => exact ⟨i + 1, B, b, _, by omega, by go_num, rfl, (by rw [HFN.out]), by rw [HFN.out]; exact HX.out⟩
          case measure => simp [intOf]; omega
        have hjj : (j : Int) < 10 := by omega
        cases ms with
        | nil =>
          have hs := EXIT.out (.inr (.inl rfl))
          subst hs
          clear EXIT
          go_wp2_with (fail)
          go_roundw
          case rel => exact ⟨i + 1, B, b, _, by omega, by go_num, rfl, (by rw [HFN.out]), by rw [HFN.out]; exact HX.out⟩
          case measure => simp [intOf]; omega
        | cons x ms =>
          have hpos : (0 : Int) < (ms.length : Int) + 1 := by omega
          by_cases h3 : mm = 3
          · have hs := EXIT.out (.inr (.inr h3))
            subst hs
            clear EXIT
            subst h3
            have hand3 : bits .and .i64 xv 3 = 3 := hand
            clear hand
            go_wp2_with (fail)
            go_roundw
            case rel => exact ⟨i + 1, B, b, _, by omega, by go_num, rfl, (by rw [HFN.out]), by rw [HFN.out]; exact HX.out⟩
            case measure => simp [intOf]; omega
          have hand3 : ((mm : Int) != 3) = true := by rw [bne_iff_ne]; omega
          have hdel : delN (10 - (j + 1)) (delS s) = fin := by
            rcases HD.out with ⟨h, _⟩ | ⟨_, e⟩
            · exact absurd h h3
            · have e2 : 10 - j = (10 - (j + 1)) + 1 := by omega
              rw [e2] at e
              exact e
          have HDN := Lib.hid hdel
          clear hdel
          obtain ⟨qm, qr, hqq⟩ : ∃ m r, s.q = m :: r := by
            cases hq : s.q with
            | nil => have := HX.out.len; rw [hq] at this; simp at this
            | cons m r => exact ⟨m, r, rfl⟩
          have HOK := Lib.hid (HS.out.ok hN (m := qm) (by rw [hqq]; exact List.mem_cons_self))
          have HP := Lib.hid (HX.out.pop hqq).2
          have hxp := (HX.out.pop hqq).1
          have HDT := Lib.hid (HX.out.dat x List.mem_cons_self)
          have hcap := HX.out.qu.cap
          simp only [List.length_cons] at hcap
          have HSD := Lib.hid HS.out.del
          have HQD : Hid ((delS s).q.length ≤ 2 * i + 2) := Nat.le_trans (len_del s) HQ.out
          have hml : ms.length ≤ 1000 := by have h1 := HX.out.len; have h2 := HQ.out; simp only [List.length_cons] at h1; omega
          obtain ⟨ad, hAd, had, e0, e1, e2⟩ := HX.out.qu.rd.getM (k := 0) (by simp)
          rw [Nat.zero_mul, add_zero] at e0 e1 e2
          simp only [List.getElem_cons_zero] at e0 e1 e2
          subst hAd
          have hal : (s.a : Nat) ≤ 60 := by have h1 := HS.out.an; have h2 := HS.out.nN; omega
          have sl : ∀ w : World, (Instr.slice 39 (.slice (some ad) (ms.length + 1) b) (some (.int .i64 (1 : Int))) none none).run Try.prog w = .ok (.slice (cutA (some ad) b 1 3) ms.length (b - 1)) w := fun w => by
            have h := run_slice_lo (P := Try.prog) w Try.underlying39 hi1 hy1 (some ad) (ms.length + 1) b 1 1 rfl (by omega)
            rwa [Nat.add_sub_cancel] at h
          obtain ⟨xf, xt, xd, xA, xp⟩ := x
          simp only at e0 e1 e2 HDT
          have HDEC : Hid (decW xd = (qm.w, 0)) := by
            have h1 : xd = encF (bodyW qm.w) := by
              have h2 := congrArg (fun z => z.2.2) hxp
              simp only [MgV.p, QM.p] at h2
              rw [h2]; split <;> rfl
            rw [h1]; exact HOK.out.dec
          have hdl : xd.length ≤ 1000000 := by
            have h2 := congrArg (fun z => z.2.2) hxp
            simp only [MgV.p, QM.p] at h2
            have h3 : xd = encF (bodyW qm.w) := by rw [h2]; split <;> rfl
            rw [h3]; exact HOK.out.len
          have hxt : Hid (xt = if qm.d then 1 else 0) := by
            have h2 := congrArg (fun z => z.2.1) hxp
            simp only [MgV.p, QM.p] at h2
            unfold Hid; rw [h2]; split <;> rfl
          have HQQ := Lib.hid hqq
          clear hxp EXIT HD HX hqq
          have HCAP : Hid (xd.length ≤ xp) := HDT.out.2.1
          have HDL : Hid (xd.length ≤ 1099511627776) := Nat.le_trans hdl (by decide)
          have HDC : Hid (∀ w', Rd w' 1 xA xd.length (cB xd) → Calls Try.prog 25 #[.slice xA xd.length xp] w' (DecWPost w' (qm.w, 0))) := fun w' hr => dec_msg w' xA xp xd qm.w HDEC.out hr HCAP.out HDL.out
          have q18 := HP.out.quiet ((Chg.refl [] wr).alloc (.cells #[.int .i64 xf, .int .i64 xt, .slice xA xd.length xp] 63))
          have HB18 := Lib.hid (At.new wr 63 #[.int .i64 xf, .int .i64 xt, .slice xA xd.length xp])
          have HX18 := Lib.hid q18
          have HDT18 := Lib.hid (HDT.out.1.alloc (.cells #[.int .i64 xf, .int .i64 xt, .slice xA xd.length xp] 63))
          clear q18 HP HDT HDEC
          have MARK1 := trivial
          clear MARK1
          go_upto_region 29 with (fail)
          have MARK2 := trivial
          clear MARK2
          go_upto_region 31 with (fail)
          have MARK3 := trivial
          clear MARK3
          go_wp2_with (fail)
          refine (HDC.out _ (by first | exact HDT18.out | exact HDT18.out.drewN _)).mono ?_
          clear HDC e0 e1 e2 sl
          generalize wr.alloc (.cells #[.int .i64 xf, .int .i64 xt, .slice xA xd.length xp] 63) = w8 at *
          generalize wr.heap.size = g18 at *
          rintro e w9 ⟨⟨wk, wo, wq, wsm, wsc, wfm, wfc, A5, l5, c5⟩, rfl, hx9, hown9, hO9, hc9⟩
          simp only [WdV.cells] at hown9 hO9 ⊢
          obtain ⟨md, mf, mc⟩ := qm
          have W8 : Hid (Chg [] w8 (w9.alloc (.cells #[.int .i64 wk, .int .i64 wo, .int .i64 wq, .int .i64 wsm, .int .i64 wsc, .int .i64 wfm, .int .i64 wfc, .slice A5 l5.length c5] 59))) := hc9.alloc _
          have HXw := Lib.hid (HX18.out.quiet W8.out)
          have HBw := Lib.hid (HB18.out.keep W8.out (by simp))
          have HWB := Lib.hid (At.new w9 59 #[.int .i64 wk, .int .i64 wo, .int .i64 wq, .int .i64 wsm, .int .i64 wsc, .int .i64 wfm, .int .i64 wfc, .slice A5 l5.length c5])
          have HR9 := Lib.hid ((Rd.of_own hown9).alloc (.cells #[.int .i64 wk, .int .i64 wo, .int .i64 wq, .int .i64 wsm, .int .i64 wsc, .int .i64 wfm, .int .i64 wfc, .slice A5 l5.length c5] 59))
          have HO9 : Hid (∀ x ∈ l5, Rd (w9.alloc (.cells #[.int .i64 wk, .int .i64 wo, .int .i64 wq, .int .i64 wsm, .int .i64 wsc, .int .i64 wfm, .int .i64 wfc, .slice A5 l5.length c5] 59)) 1 x.A x.r.val.length (cB x.r.val)) := fun x hx => (Rd.of_own (hO9 x hx)).alloc _
          have y1 := HBw.out.cell 1
          simp only [List.getElem?_toArray, List.getElem?_cons_zero, List.getElem?_cons_succ] at y1
          clear HX18 HB18 HDT18 hown9 hO9 hc9 W8
          generalize hwa : w9.alloc (.cells #[.int .i64 wk, .int .i64 wo, .int .i64 wq, .int .i64 wsm, .int .i64 wsc, .int .i64 wfm, .int .i64 wfc, .slice A5 l5.length c5] 59) = wa at *
          cases md
          · obtain rfl : xt = 0 := by rw [hxt.out]; rfl
            have hwq : wq = (mf : Int) := by
              have := congrArg Wd.q hx9
              simpa [WdV.d, QM.w] using this
            have z2 := HWB.out.cell 2
            simp only [List.getElem?_toArray, List.getElem?_cons_zero, List.getElem?_cons_succ] at z2
            have HAC := Lib.hid (ack_any wa go s.o HXw.out.o (mf : Int))
            have hse : delS s = heardS ⟨false, mf, mc⟩ { s with q := qr } := by unfold delS; rw [HQQ.out]; rfl
            have HSE := Lib.hid hse
            subst hwq
            clear hx9 hse hxt
            go_wp2_with (fail)
            refine HAC.out.mono ?_
            rintro e wb ⟨rfl, hob, hcb⟩
            have HXe : Hid (MtX w wb go gi (cutA (some ad) b 1 3) (b - 1) ms (delS s)) := by
              rw [HSE.out]
              refine HXw.out.setO hcb ?_ (heard_same _ _).1 (heard_same _ _).2
              rw [← ack_o]
              exact hob
            have hae : s.a = (delS s).a := by rw [HSE.out, (heard_same _ _).1]
            rw [hae]
            clear hob hcb HXw HAC y1 z2 HWB HBw
            go_wp2_with (fail)
            go_roundw
            case rel => exact ⟨j + 1, _, _, ms, delS s, by omega, by go_num, rfl, rfl, HXe.out, HSD.out, HQD.out, .inr ⟨h3, HDN.out⟩⟩
            case measure => simp [intOf]; omega
          · obtain rfl : xt = 1 := by rw [hxt.out]; rfl
            have hrs : l5.map RcV.r = someL 0 (mf : Int) mc := by
              have := congrArg Wd.rs hx9
              simpa [WdV.d, QM.w] using this
            have hmf1 := HOK.out.f1 rfl
            have hmc8 := HOK.out.c8 rfl
            have hmfk := HOK.out.f
            simp only at hmf1 hmc8 hmfk
            have HRS := Lib.hid hrs
            have hl5 : l5.length = mc := by have := congrArg List.length hrs; rw [List.length_map, someL_len] at this; exact this
            have hl5b : l5.length ≤ 8 := by omega
            have HVL : Hid (∀ x ∈ l5, x.r.val.length ≤ 140737488351232) := fun x hx => by
              have h1 : x.r ∈ someL 0 (mf : Int) mc := by rw [← hrs]; exact List.mem_map_of_mem hx
              obtain ⟨k, _, hk⟩ := List.mem_map.1 h1
              rw [← hk]
              show (1 : Nat) ≤ _; omega
            have z7 := HWB.out.cell 7
            simp only [List.getElem?_toArray, List.getElem?_cons_zero, List.getElem?_cons_succ] at z7
            have HTA := Lib.hid (take_any wa gi 1 0 (s.a : Int) HXw.out.i (by omega) (by omega) A5 _ c5 l5 rfl HR9.out HO9.out (by omega) HVL.out)
            rw [hrs, take_come s.a mc mf hmf1 (by omega) (by omega)] at HTA
            have HTO : Hid (s.a ≤ tookS s.a mf mc ∧ tookS s.a mf mc ≤ 1000) := by unfold Hid tookS; split <;> omega
            have hse : delS s = { s with a := tookS s.a mf mc, q := qr ++ [⟨false, tookS s.a mf mc, 0⟩] } := by unfold delS; rw [HQQ.out]; rfl
            have HSE := Lib.hid hse
            generalize tookS s.a mf mc = T at *
            clear hx9 hse hxt hrs hl5
            go_wp2_with (fail)
            refine HTA.out.mono ?_
            rintro e wb ⟨A6, c6, l6, rfl, hl6, hown6, hO6, hcb⟩
            have HXb := Lib.hid (HXw.out.quiet hcb)
            have hll6 : l6.length = T - s.a := by have := congrArg List.length hl6.out; rw [List.length_map, someL_len] at this; exact this
            have hl6b : l6.length ≤ 1000 := by have := HTO.out; omega
            have HLL6 := Lib.hid hll6
            have HR6 := Lib.hid (Rd.of_own hown6)
            have HO6 : Hid (∀ x ∈ l6, Rd wb 1 x.A x.r.val.length (cB x.r.val)) := fun x hx => Rd.of_own (hO6.out x hx)
            have HL6 := Lib.hid hl6
            clear hown6 hO6 hcb hl6 HTA HXw HR9 HO9 hll6 z7 y1 HWB HBw
            go_wp2_with (fail)
            refine (some_any wb 0 ((s.a : Int) + 1) (l6.length : Int) (by omega) (by omega) (by omega)).mono ?_
            rintro e wc ⟨A7, c7, l7, rfl, hl7, hown7, hv7, hcc⟩
            have HXc := Lib.hid (HXb.out.quiet hcc)
            have hsame : l6.map RcV.r = l7.map RcV.r := by rw [HL6.out.out, hl7.out, Int.toNat_natCast, HLL6.out]
            have HRC := Lib.hid (records_yes wc A6 A7 _ _ c6 c7 l6 l7 hsame rfl rfl (HR6.out.keep0 hcc) (Rd.of_own hown7) (fun x hx => (HO6.out x hx).keep0 hcc) (fun x hx => (hv7.out x hx).rd) (by omega))
            clear hown7 hv7 hcc hl7 hsame HXb HR6 HO6
            go_wp2_with (fail)
            refine HRC.out.mono ?_
            rintro e wd ⟨rfl, hcd⟩
            have HXd := Lib.hid (HXc.out.quiet hcd)
            clear HXc HRC hcd
            have hT2 : (s.a : Int) + (l6.length : Int) = (T : Int) := by rw [HLL6.out]; have := HTO.out; omega
            have hTw : IntKind.i64.wrap ((s.a : Int) + (l6.length : Int)) = (T : Int) := by rw [hT2]; exact IntWalk.i64_in _ (by have := HTO.out; omega)
            have HDO := Lib.hid (done_any wd gi s.i HXd.out.i (ok_i HS.out hN) (T : Int))
            have hdi : doneI s.i (T : Int) = (SS.i { s with a := T, q := qr }) := by
              unfold doneI SS.i
              simp only
              congr 1
              have := HTO.out
              omega
            rw [hdi] at HDO
            clear hdi
            go_wp2_with (fail)
            refine HDO.out.mono ?_
            rintro e we ⟨A8, c8, m8, rfl, hm8, hn8, hi8, hce⟩
            obtain ⟨x8, rfl, hx8⟩ := one_msg (m := ⟨false, T, 0⟩) hm8.1.out
            have HX8 := Lib.hid (HXd.out.setI (s' := { s with a := T, q := qr }) hce hi8 rfl rfl)
            have HD8 : Hid (Rd we 1 x8.A x8.d.length (cB x8.d) ∧ x8.d.length ≤ x8.cp ∧ (0 < x8.d.length → ∀ k ∈ blk x8.A, k ≠ go ∧ k ≠ gi ∧ (0 < b - 1 → k ∉ blk (cutA (some ad) b 1 3)))) := by
              refine ⟨hm8.2.2 x8 (by simp), hn8.2.2 x8 (by simp), fun h0 k hk => ?_⟩
              have h1 := hn8.2.1 x8 (by simp) h0 k hk
              have h2 := HXd.out.o.lt
              have h3 := HXd.out.i.lt
              refine ⟨by omega, by omega, fun hb hm => ?_⟩
              have := HXd.out.qu.lt hb k hm
              omega
            have HR8 := Lib.hid hm8.2.1
            have hw8 : w.heap.size ≤ we.heap.size := HX8.out.chg.size
            clear hm8 hn8 hi8 hce HXd HDO
            simp only [List.length_singleton]
            go_wp2_with (at_builtin; refine wpList_append_qu _ rfl (.tmp 180) (.tmp 183) 39 (by rfl) w.heap.size 63 i1 _ 3 40 Try.underlying39 hi1 hy0 hy1 hy2 rfl (by omega) (cutA (some ad) b 1 3) ms.length (b - 1) (cMg ms) (by rfl) HX8.out.qu A8 1 c8 (cMg [x8]) (by omega) (by rfl) HR8.out (cMg_one _) (by unfold maxLen; omega) (by omega) hw8 ?_; intro A9 c9 w9 hq9 hc9 hA9 _; have HXe : Hid (MtX w w9 go gi A9 c9 (ms ++ [x8]) (delS s)) := (by rw [HSE.out]; exact HX8.out.push (xs := [x8]) (qs := [⟨false, T, 0⟩]) (by rw [List.map_cons, List.map_cons, hx8]; rfl) (fun x hx => by obtain rfl := List.mem_singleton.1 hx; exact HD8.out) hq9 hc9 hA9); clear hq9 hc9 hA9)
            go_roundw
            case rel => exact ⟨j + 1, A9, c9, ms ++ [x8], delS s, by omega, by go_num, by rw [List.length_append]; rfl, (by rw [HSE.out]), HXe.out, HSD.out, HQD.out, .inr ⟨h3, HDN.out⟩⟩
            case measure => simp [intOf]; omega
    · have hiL : i = ls.length + 150 := by omega
      have hii : ¬ (i : Int) < (ls.length : Int) + 150 := by omega
      have hka : (runS N (wxS ls) i).k = N ∧ (runS N (wxS ls) i).a = N := by
        have h := comes_all N hN (wxS ls) ls.length hL (fun i hi => wx_calm ls i hi)
        rw [← hiL] at h
        exact h
      clear hiL hlt
      generalize runS N (wxS ls) i = s at *
      obtain ⟨hk, ha⟩ := hka
      have HK := Lib.hid hk
      rw [ha]
      have HA := Lib.hid ha
      clear hk ha
      have HAK := Lib.hid (acked_any wr go s.o HX.out.o)
      have HAP := Lib.hid (applied_any wr gi s.i HX.out.i)
      have ek : Hid (s.o.k = (N : Int)) := by show (s.k : Int) = _; rw [HK.out]
      have ea : Hid (s.i.k = (N : Int)) := by show (s.a : Int) = _; rw [HA.out]
      rw [ek.out] at HAK
      rw [ea.out] at HAP
      go_wp2_with (fail)
      refine HAK.out.mono ?_
      rintro e w4 ⟨rfl, rfl⟩
      go_wp2_with (fail)
      refine HAP.out.mono ?_
      rintro e w5 ⟨rfl, rfl⟩
      go_wp2_with (fail)
      (with_reducible refine (knownL_any _).mono ?_)
      rintro e wk ⟨rfl, hck⟩
      go_wp2_with (fail)
      go_ret
      exact ⟨rfl, HX.out.chg.trans hck (by simp)⟩
end Go.Proofs.Ytdfkednggjelcaa
